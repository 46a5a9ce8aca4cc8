/- A part of the proof in YtfijfjjleelphaaHealZ16. -/
import Derived.ArgAppend
import Derived.BigQuiet
import Derived.BigRegion
import Derived.Deep.AppendLies
import Derived.Deep.MidRow
import Derived.Deep.Quiet
import Derived.Deep.QuietTactic
import Derived.Deep.RegionHeld3
import Derived.Deep.RegionWith
import Derived.IntWalk
import Derived.Laws.BytesArg
import Derived.Lib.Hide
import Derived.Lib.LazyBuf
import Derived.LoopIn
import Derived.LoopN
import Derived.LoopNIn
import Derived.Orders
import Derived.OrdersHeld
import Derived.OwnWalkIn
import Derived.RangeFuncLeaves
import Derived.RangeFuncNested
import Derived.Shelf.Abstract
import Derived.Still
import Derived.StillTail
import Derived.StillTailTactics
import Derived.TacticsInMore
import Derived.Test.YtfijfjjleelphaaRows
import Derived.WalkKit
import Derived.WalkLawsBesides
import Derived.WalkSpells
import Derived.Test.YtfijfjjleelphaaHealZ14
/- FnExactRaidHeal: the law's walk. -/
namespace Go.Proofs.Ytfijfjjleelphaa
open Go.RowKit

def healY (r : RaidD) (p : PtrD) : RaidD := ⟨match healF r.fDisks p with | some x => x.1 | none => []⟩
def healN (r : RaidD) (p : PtrD) : Int := match healF r.fDisks p with | some x => (x.2 : Int) | none => 0
def healB (r : RaidD) (p : PtrD) : Bool := match healF r.fDisks p with | some _ => true | none => false
theorem list_size_le : ∀ (xs : List ByteArray) (k : Nat), (xs.getD k ByteArray.empty).size ≤ tot ByteArray.size xs
  | [], k => by simp [List.getD, tot]
  | x :: xs, 0 => by simp [List.getD, tot]
  | x :: xs, k + 1 => by have := list_size_le xs k; simp only [tot, List.getD_cons_succ]; omega
theorem list_wait_le : ∀ (xs : List WaitD) (k : Nat), (xs.getD k default).fText.size ≤ tot WaitD.bulk xs
  | [], k => by simp [List.getD, tot]; rfl
  | x :: xs, 0 => by simp only [List.getD_cons_zero, tot]; unfold WaitD.bulk; omega
  | x :: xs, k + 1 => by have := list_wait_le xs k; simp only [tot, List.getD_cons_succ]; omega
theorem RaidD.fits {r : RaidD} (h : r.bulk ≤ 1048576) (k : Nat) : (r.fDisks.getD k default).fits := by
  unfold RaidD.bulk at h
  have h1 := tot_one DiskD.bulk rfl r.fDisks k
  have h2 : DiskD.bulk (r.fDisks.getD k default) = ((r.fDisks.getD k default).fCells.length + tot ByteArray.size (r.fDisks.getD k default).fCells) + ((r.fDisks.getD k default).fWaits.length + tot WaitD.bulk (r.fDisks.getD k default).fWaits) := rfl
  exact ⟨by omega, by omega, fun j => by have := list_size_le (r.fDisks.getD k default).fCells j; omega, fun j => by have := list_wait_le (r.fDisks.getD k default).fWaits j; omega⟩
theorem putD_len (d : DiskD) (n : Int) (t : ByteArray) : (d.putD n t).fCells.length = d.fCells.length ∧ (d.putD n t).fWaits.length = d.fWaits.length + 1 := ⟨rfl, by simp [DiskD.putD]⟩
theorem stepPut_len {row : Int} {col : Nat → ByteArray} {wanted : Nat → Bool} {i : Nat} {d x : DiskD} (h : stepPut row col wanted i d = some x) : x.fCells.length = d.fCells.length ∧ x.fWaits.length ≤ d.fWaits.length + 1 := by
  unfold stepPut at h
  cases h1 : (d.fGone || !wanted i) with
  | true => rw [h1] at h; obtain rfl : d = x := by simpa using h
            omega
  | false =>
    rw [h1] at h
    cases h2 : d.can row (col i) with
    | true => rw [h2] at h; obtain rfl : d.putD row (col i) = x := by simpa using h
              have := putD_len d row (col i); omega
    | false => rw [h2] at h; simp at h
theorem eachTo_at {f : Nat → DiskD → Option DiskD} {ds : List DiskD} : ∀ {n : Nat} {xs : List DiskD}, eachTo f ds n = some xs → ∀ k, k < n → f k (ds.getD k default) = some (xs.getD k default) := by
  intro n
  induction n with
  | zero => intro xs _ k hk; omega
  | succ n ih =>
    intro xs h k hk
    unfold eachTo at h
    cases h1 : eachTo f ds n with
    | none => rw [h1] at h; cases h
    | some ys =>
      rw [h1] at h
      simp only at h
      cases h2 : f n (ds.getD n default) with
      | none => rw [h2] at h; cases h
      | some y =>
        rw [h2] at h
        obtain rfl : ys ++ [y] = xs := by simpa using h
        have hl := eachTo_len h1
        by_cases hkn : k < n
        · rw [ih h1 k hkn]; simp only [List.getD_eq_getElem?_getD]; rw [List.getElem?_append_left (by omega)]
        · obtain rfl : k = n := by omega
          rw [h2]; simp only [List.getD_eq_getElem?_getD]; rw [List.getElem?_append_right (by omega), hl]; simp
theorem healY_fit {r : RaidD} (p : PtrD) (hf : r.Fit) : (healY r p).Fit := by
  unfold healY
  cases h : healF r.fDisks p with
  | none => exact ⟨Nat.zero_le _, Nat.zero_le _, fun k => by simp [List.getD]; exact ⟨Nat.zero_le _, Nat.zero_le _⟩⟩
  | some x =>
    unfold healF at h
    cases h1 : (okR r.fDisks && (p.ok && !p.hole)) with
    | false => rw [h1] at h; simp at h
    | true =>
      rw [h1] at h
      cases h2 : (readD r.fDisks p).2 with
      | false => rw [h2] at h; simp at h
      | true =>
        rw [h2] at h
        simp only [cond_true] at h
        cases h3 : healD r.fDisks (readD r.fDisks p).1 p.fAt.toNat with
        | none => rw [h3] at h; simp at h
        | some xs =>
          rw [h3] at h
          obtain rfl : (xs, cntH r.fDisks (readD r.fDisks p).1 p.fAt.toNat 3) = x := by simpa using h
          have hok : okR r.fDisks = true := by rw [Bool.and_eq_true] at h1; exact h1.1
          unfold okR at hok
          simp only [Bool.and_eq_true, decide_eq_true_eq] at hok
          have hl : xs.length = 3 := eachTo_len h3
          have hk : ∀ k, k < 3 → (xs.getD k default).fCells.length ≤ 64 ∧ (xs.getD k default).fWaits.length ≤ 121 := fun k hk => by
            have h4 := stepPut_len (eachTo_at h3 k hk)
            have h5 := ok_waits (allB_at (p := fun k => (r.fDisks.getD k default).ok) hok.2 (show k < r.fDisks.length by omega))
            omega
          have ht : tot lenT xs ≤ 10000000 := by
            match xs, hl with
            | [a, b, c], _ =>
              have k0 := hk 0 (by omega)
              have k1 := hk 1 (by omega)
              have k2 := hk 2 (by omega)
              simp only [List.getD_cons_zero, List.getD_cons_succ] at k0 k1 k2
              simp only [tot, lenT]
              omega
          refine ⟨by show xs.length ≤ _; omega, ht, fun k => ?_⟩
          show (xs.getD k default).Fit
          by_cases hkk : k < 3
          · have := hk k hkk; exact ⟨by omega, by omega⟩
          · rw [List.getD_eq_getElem?_getD, List.getElem?_eq_none (by omega)]; exact ⟨Nat.zero_le _, Nat.zero_le _⟩
theorem own_nil (w w' : World) : RaidD.Own w' w.heap.size w'.heap.size (.agg #[.slice none 0 0]) ⟨[]⟩ :=
  ⟨none, 0, [], rfl, rfl, RowO.empty _ _ _ _ _ _ _, fun p h => absurd h (by simp), List.pairwise_singleton ..⟩

theorem specHeal_own (v : Value) (r : RaidD) (p : PtrD) (w : World) (hf : ∀ k, (r.fDisks.getD k default).fits) (hr : RaidD.Reads w v r) (hrl0 : r.fDisks.length ≤ 1048576) : Calls Try.prog 33 #[v, .agg #[.int .i64 p.fAt, .int .i64 p.fBirth, .int .i64 p.fSize, .int .i64 p.fSum, .int .i64 p.fLevel]] w fun e w' => ∃ v', e = .returned (.tuple #[v', .int .i64 (healN r p), .bool (healB r p)]) ∧ RaidD.Own w' w.heap.size w'.heap.size v' (healY r p) ∧ Below w.heap.size w w' := by
  obtain ⟨a, c, ps, rfl, hx, hr, hp⟩ := hr
  have hl : ps.length ≤ 1048576 := by rw [← dsOf_len, hx]; exact hrl0
  refine (specRaidHeal_any a c ps w hl (fun k => by rw [← dsOf_get, hx]; exact hf k) hr hp p).mono ?_
  rw [hx]
  rintro e w' (⟨h1, rfl, hs⟩ | ⟨ao, cp, qs, nn, h1, rfl, hs⟩)
  · exact ⟨_, by unfold healN healB; rw [h1], by unfold healY; rw [h1]; exact own_nil _ _, hs.bel⟩
  · exact ⟨_, by unfold healN healB; rw [h1], by unfold healY; rw [h1]; exact RaidD.st_own hs rfl, hs.bel⟩

theorem implHeal_own (v : Value) (r : RaidD) (p : PtrD) (w : World) (hf : ∀ k, (r.fDisks.getD k default).fits) (hr : RaidD.Reads w v r) (hrl0 : r.fDisks.length ≤ 1048576) : Calls Try.prog 21 #[v, .agg #[.int .i64 p.fAt, .int .i64 p.fBirth, .int .i64 p.fSize, .int .i64 p.fSum, .int .i64 p.fLevel]] w fun e w' => ∃ v', e = .returned (.tuple #[v', .int .i64 (healN r p), .bool (healB r p)]) ∧ RaidD.Own w' w.heap.size w'.heap.size v' (healY r p) ∧ Below w.heap.size w w' := by
  obtain ⟨a, c, ps, rfl, hx, hr, hp⟩ := hr
  have hl : ps.length ≤ 1048576 := by rw [← dsOf_len, hx]; exact hrl0
  refine (implRaidHeal_any a c ps w hl (fun k => by rw [← dsOf_get, hx]; exact hf k) hr hp p).mono ?_
  rw [hx]
  rintro e w' (⟨h1, rfl, hs⟩ | ⟨ao, cp, qs, nn, h1, rfl, hs⟩)
  · exact ⟨_, by unfold healN healB; rw [h1], by unfold healY; rw [h1]; exact own_nil _ _, hs.bel⟩
  · exact ⟨_, by unfold healN healB; rw [h1], by unfold healY; rw [h1]; exact RaidD.st_own hs rfl, hs.bel⟩

set_option maxHeartbeats 4000000 in
set_option maxRecDepth 100000 in
theorem lawRaidHeal_any (va : Value) (r : RaidD) (p : PtrD) (w0 : World) (hr : RaidD.Reads w0 va r) (hsm : r.Small) : Calls Try.prog 8 #[va, .agg #[.int .i64 p.fAt, .int .i64 p.fBirth, .int .i64 p.fSize, .int .i64 p.fSum, .int .i64 p.fLevel]] w0 fun e w' => e = .returned (.bool true) ∧ Below w0.heap.size w0 w' := by
  have HR := Bx.mk hr
  obtain ⟨a0, c0, ps, rfl, _⟩ := hr
  have HS := Bx.mk (St.start w0)
  refine wc_enter Try.func8 rfl Try.ntmps8 [(0, .agg #[.slice a0 ps.length c0]), (1, .agg #[.int .i64 p.fAt, .int .i64 p.fBirth, .int .i64 p.fSize, .int .i64 p.fSum, .int .i64 p.fLevel])] ⟨rfl, rfl, trivial⟩ rfl ?_; intro a HF
  refine wp_seq ?_
  refine wp_region_lit ?_
  refine wl_box rfl HF rfl (HF.ev rfl) (Z := [.slice a0 ps.length c0]) rfl rfl rfl rfl HS.out ?_; clear HF HS; clear a; intro a w1 b1 HF HS; replace HS := Bx.mk HS
  refine wl_box rfl HF rfl (HF.ev rfl) (Z := [.int .i64 p.fAt, .int .i64 p.fBirth, .int .i64 p.fSize, .int .i64 p.fSum, .int .i64 p.fLevel]) rfl rfl rfl rfl HS.out ?_; clear HF HS; clear a; intro a w2 b2 HF HS; replace HS := Bx.mk HS
  refine wl_y rfl HF rfl rfl (yl_assign rfl (HF.ev rfl)) ?_; clear HF; clear a; intro a HF
  refine wpList_nil ?_
  refine ex_then ?_
  refine wp_seq ?_
  refine wp_region_lit ?_
  refine wl_y rfl HF rfl rfl (yl_assign rfl (HF.ev rfl)) ?_; clear HF; clear a; intro a HF
  refine wpList_nil ?_
  refine ex_then ?_
  refine wp_seq ?_
  refine wp_region_lit ?_
  refine wl_y rfl HF rfl rfl (yl_loadR (cs := [.slice a0 ps.length c0]) rfl (HF.ev rfl) ((HS.out.box 1 rfl).sub 0 1) (by kernel_rfl)) ?_; clear HF; clear a; intro a HF
  refine wl_y rfl HF rfl rfl (yl_move rfl (HF.ev rfl)) ?_; clear HF; clear a; intro a HF
  refine wl_callB rfl HF rfl (enter_of Try.func34 (by kernel_rfl) rfl) (args := #[.agg #[.slice a0 ps.length c0], .int .i64 1048576]) rfl (v := .int .i64 (leftOf 1048576 r.bulk)) (szRaid_any _ r 1048576 _ (by omega) (by omega) (HR.out.below HS.out.bel) hsm) rfl rfl HS.out ?_; clear HF HS; clear a; intro w3 a HS HF; replace HS := Bx.mk HS
  refine wl_y rfl HF rfl rfl (yl_assign rfl (HF.ev rfl)) ?_; clear HF; clear a; intro a HF
  refine wpList_nil ?_
  refine ex_then ?_
  refine wp_seq ?_
  refine wp_seq ?_
  refine wp_region_lit ?_
  refine wl_y rfl HF rfl rfl (yl_move rfl (HF.ev rfl)) ?_; clear HF; clear a; intro a HF
  refine wl_y rfl HF rfl rfl (yl_lssI rfl (HF.ev rfl) (HF.ev rfl)) ?_; clear HF; clear a; intro a HF
  refine wpList_nil ?_
  refine ex_then ?_
  refine HF.cases 23 rfl (fun cc1 HF1 => ?_) (fun cc1 HF1 => ?_)
  · clear HF; have HF := HF1; clear HF1
    refine wc_true HF rfl ?_
    refine wp_seq ?_
    refine wp_region_lit ?_
    refine wl_y rfl HF rfl rfl (yl_assign rfl (HF.ev rfl)) ?_; clear HF; clear a; intro a HF
    refine wpList_nil ?_
    refine ex_then ?_
    refine wp_ret ?_
    refine ex_then_ret ?_
    refine bp_ret1 HF Try.results8 (HF.res rfl) ?_
    exact ⟨rfl, HS.out.bel⟩
  · clear HF; have HF := HF1; clear HF1
    have hbk : r.bulk ≤ 1048576 := by have := of_decide_eq_false cc1; unfold leftOf at this; split at this <;> omega
    have hf := RaidD.fit hbk; have hft := RaidD.fits hbk; have hfy : (healY r p).Fit := healY_fit p hf
    refine wc_false HF rfl ?_
    refine wp_skip ?_
    refine ex_then ?_
    refine wp_seq ?_
    refine wp_join (R := fun a w => ∃ (b9 : Nat) (u6 : Value) (B7 : Nat) (C8 : Nat) (B4 : Nat) (C5 : Nat) (u3 : Value), Fr 125 a [(0, .agg #[.slice a0 ps.length c0]), (1, .agg #[.int .i64 p.fAt, .int .i64 p.fBirth, .int .i64 p.fSize, .int .i64 p.fSum, .int .i64 p.fLevel]), (2, .pointer (some ⟨b1, 0, none⟩)), (3, .pointer (some ⟨b2, 0, none⟩)), (4, .bool false), (5, .int .i64 (leftOf 1048576 r.bulk)), (19, .agg #[.slice a0 ps.length c0]), (20, .int .i64 1048576), (21, .int .i64 (leftOf 1048576 r.bulk)), (22, .int .i64 (leftOf 1048576 r.bulk)), (23, .bool false), (6, .pointer (some ⟨b9, 0, none⟩)), (7, .int .i64 (healN r p)), (8, .bool (healB r p))] ∧ St w0 ([boxA b9 1 25 u6, ivA RaidD.Own RaidD.Own.loc B7 C8 u6 (healY r p), ivA RaidD.Own RaidD.Own.loc B4 C5 u3 r, boxA b2 5 78 (.agg #[.int .i64 p.fAt, .int .i64 p.fBirth, .int .i64 p.fSize, .int .i64 p.fSum, .int .i64 p.fLevel]), boxA b1 1 77 (.agg #[.slice a0 ps.length c0])]) w) ?_ ?_
    · skip
      refine wr_heldS (s := [boxA b2 5 78 (.agg #[.int .i64 p.fAt, .int .i64 p.fBirth, .int .i64 p.fSize, .int .i64 p.fSum, .int .i64 p.fLevel]), boxA b1 1 77 (.agg #[.slice a0 ps.length c0])]) (by kernel_rfl) (St.drew (HS.out)) ?_
      have HS2 := Bx.mk HS.out.drew; replace HS := Bx.mk (show St w0 ([boxA b2 5 78 (.agg #[.int .i64 p.fAt, .int .i64 p.fBirth, .int .i64 p.fSize, .int .i64 p.fSum, .int .i64 p.fLevel]), boxA b1 1 77 (.agg #[.slice a0 ps.length c0])]) _ from HS.out.drew)
      generalize World.drew _ = w4 at HS HS2 ⊢
      refine wh_y 0 rfl (by kernel_rfl) (by kernel_rfl) (by kernel_rfl) (fun _ _ _ h => h) rfl HF rfl rfl (fun _ HS => (yl_loadR (cs := [.slice a0 ps.length c0]) rfl (HF.ev rfl) ((HS.box 1 rfl).sub 0 1) (by kernel_rfl))) HS.out ?_; clear HF; clear a; intro a HF
      refine wh_y 2 rfl (by kernel_rfl) (by kernel_rfl) (by kernel_rfl) (fun _ _ _ h => h) rfl HF rfl rfl (fun _ HS => (yl_loadR (cs := [.int .i64 p.fAt, .int .i64 p.fBirth, .int .i64 p.fSize, .int .i64 p.fSum, .int .i64 p.fLevel]) rfl (HF.ev rfl) ((HS.box 0 rfl).sub 0 5) (by kernel_rfl))) HS.out ?_; clear HF; clear a; intro a HF
      refine wh_two 1 9 (by kernel_rfl) ?_ ?_
      · skip
        refine wo_call rfl rfl HF rfl (enter_of Try.func35 (by kernel_rfl) rfl) (args := #[.agg #[.slice a0 ps.length c0]]) rfl (toRaid_any _ r _ hf (HR.out.below HS.out.bel)) rfl rfl ?_
        rintro _ w6 ⟨u3, rfl, ho, hb⟩
        refine ⟨_, rfl, ?_⟩; replace HS := Bx.mk (HS.out.later hb); replace HS2 := Bx.mk (HS2.out.add (St.ivNew (loc := RaidD.Own.loc) ho hb)); clear ho hb HF; clear a; intro a HF; refine ⟨HS.out, ?_⟩
        obtain ⟨B4, C5, hh⟩ : ∃ B B1, St w0 ([ivA RaidD.Own RaidD.Own.loc B B1 u3 r, boxA b2 5 78 (.agg #[.int .i64 p.fAt, .int .i64 p.fBirth, .int .i64 p.fSize, .int .i64 p.fSum, .int .i64 p.fLevel]), boxA b1 1 77 (.agg #[.slice a0 ps.length c0])]) w6 := ⟨_, _, HS2.out⟩; replace HS2 := Bx.mk hh; clear hh
        refine wh_two 3 9 (by kernel_rfl) ?_ ?_
        · skip
          refine wo_callB rfl rfl HF rfl (enter_of Try.func36 (by kernel_rfl) rfl) (args := #[.agg #[.int .i64 p.fAt, .int .i64 p.fBirth, .int .i64 p.fSize, .int .i64 p.fSum, .int .i64 p.fLevel]]) rfl (v := .agg #[.int .i64 p.fAt, .int .i64 p.fBirth, .int .i64 p.fSize, .int .i64 p.fSum, .int .i64 p.fLevel]) (toPtr_any p _) rfl rfl ?_
          intro w7 hb; replace HS := Bx.mk (HS.out.later hb); replace HS2 := Bx.mk (HS2.out.later hb); clear hb HF; clear a; intro a HF; refine ⟨HS.out, ?_⟩
          refine wh_two 4 9 (by kernel_rfl) ?_ ?_
          · skip
            refine wo_call rfl rfl HF rfl (enter_of Try.func33 (by kernel_rfl) rfl) (args := #[u3, .agg #[.int .i64 p.fAt, .int .i64 p.fBirth, .int .i64 p.fSize, .int .i64 p.fSum, .int .i64 p.fLevel]]) rfl (specHeal_own _ r p _ hft (RaidD.Own.rd (HS2.out.iv 0 rfl)) hf.n) rfl rfl ?_
            rintro _ w9 ⟨u6, rfl, ho, hb⟩
            refine ⟨_, rfl, ?_⟩; replace HS := Bx.mk (HS.out.later hb); replace HS2 := Bx.mk (HS2.out.add (St.ivNew (loc := RaidD.Own.loc) ho hb)); clear ho hb HF; clear a; intro a HF; refine ⟨HS.out, ?_⟩
            obtain ⟨B7, C8, hh⟩ : ∃ B B1, St w0 ([ivA RaidD.Own RaidD.Own.loc B B1 u6 (healY r p), ivA RaidD.Own RaidD.Own.loc B4 C5 u3 r, boxA b2 5 78 (.agg #[.int .i64 p.fAt, .int .i64 p.fBirth, .int .i64 p.fSize, .int .i64 p.fSum, .int .i64 p.fLevel]), boxA b1 1 77 (.agg #[.slice a0 ps.length c0])]) w9 := ⟨_, _, HS2.out⟩; replace HS2 := Bx.mk hh; clear hh
            refine wh_y 5 rfl (by kernel_rfl) (by kernel_rfl) (by kernel_rfl) (fun _ _ _ h => h) rfl HF rfl rfl (fun _ HS => (yl_move rfl (HF.ev rfl))) HS.out ?_; clear HF; clear a; intro a HF
            refine wh_y 6 rfl (by kernel_rfl) (by kernel_rfl) (by kernel_rfl) (fun _ _ _ h => h) rfl HF rfl rfl (fun _ HS => (yl_extract rfl (HF.ev rfl) rfl)) HS.out ?_; clear HF; clear a; intro a HF
            refine wh_y 7 rfl (by kernel_rfl) (by kernel_rfl) (by kernel_rfl) (fun _ _ _ h => h) rfl HF rfl rfl (fun _ HS => (yl_extract rfl (HF.ev rfl) rfl)) HS.out ?_; clear HF; clear a; intro a HF
            refine wh_y 8 rfl (by kernel_rfl) (by kernel_rfl) (by kernel_rfl) (fun _ _ _ h => h) rfl HF rfl rfl (fun _ HS => (yl_extract rfl (HF.ev rfl) rfl)) HS.out ?_; clear HF; clear a; intro a HF
            refine wh_one 9 (by kernel_rfl) ?_
            refine wo_alloc rfl rfl HF rfl rfl rfl (Z := [.slice none 0 0]) (by kernel_rfl) rfl HS2.out HS.out ?_; clear HF HS HS2; clear a; intro a w10 b9 HF HS2 HS; replace HS := Bx.mk HS; replace HS2 := Bx.mk HS2; refine ⟨HS.out, ?_⟩
            refine wh_one 10 (by kernel_rfl) ?_
            refine wo_storeBox rfl rfl rfl rfl (HF.ev rfl) (HF.ev rfl) HS2.out 0 rfl (RaidD.Own.cells (HS2.out.iv 1 rfl)) (by kernel_rfl) ?_
            clear HS HS2; intro w11 HS2; replace HS2 : Bx (St w0 ([boxA b9 1 25 u6, ivA RaidD.Own RaidD.Own.loc B7 C8 u6 (healY r p), ivA RaidD.Own RaidD.Own.loc B4 C5 u3 r, boxA b2 5 78 (.agg #[.int .i64 p.fAt, .int .i64 p.fBirth, .int .i64 p.fSize, .int .i64 p.fSum, .int .i64 p.fLevel]), boxA b1 1 77 (.agg #[.slice a0 ps.length c0])]) _) := ⟨HS2⟩
            have HS : Bx (St w0 ([boxA b2 5 78 (.agg #[.int .i64 p.fAt, .int .i64 p.fBirth, .int .i64 p.fSize, .int .i64 p.fSum, .int .i64 p.fLevel]), boxA b1 1 77 (.agg #[.slice a0 ps.length c0])]) _) := ⟨(((HS2.out.erase 2).erase 1).erase 0)⟩; refine ⟨HS.out, ?_⟩
            refine wh_y 11 rfl (by kernel_rfl) (by kernel_rfl) (by kernel_rfl) (fun _ _ _ h => h) rfl HF rfl rfl (fun _ HS => (yl_assign rfl (HF.ev rfl))) HS.out ?_; clear HF; clear a; intro a HF
            refine wh_y 12 rfl (by kernel_rfl) (by kernel_rfl) (by kernel_rfl) (fun _ _ _ h => h) rfl HF rfl rfl (fun _ HS => (yl_assign rfl (HF.ev rfl))) HS.out ?_; clear HF; clear a; intro a HF
            refine wh_done (by kernel_rfl) ?_
            replace HS := HS2; clear HS2
            exact on_mk ⟨_, _, _, _, _, _, _, HF.less _ ⟨rfl, rfl, rfl, rfl, rfl, rfl, rfl, rfl, rfl, rfl, rfl, rfl, rfl, rfl, trivial⟩, HS.out⟩
          · skip
            refine wo_alloc rfl rfl HF rfl rfl rfl (Z := [.slice none 0 0]) (by kernel_rfl) rfl HS2.out HS.out ?_; clear HF HS HS2; clear a; intro a w12 b10 HF HS2 HS; replace HS := Bx.mk HS; replace HS2 := Bx.mk HS2; refine ⟨HS.out, ?_⟩
            refine wh_one 4 (by kernel_rfl) ?_
            refine wo_call rfl rfl HF rfl (enter_of Try.func33 (by kernel_rfl) rfl) (args := #[u3, .agg #[.int .i64 p.fAt, .int .i64 p.fBirth, .int .i64 p.fSize, .int .i64 p.fSum, .int .i64 p.fLevel]]) rfl (specHeal_own _ r p _ hft (RaidD.Own.rd (HS2.out.iv 1 rfl)) hf.n) rfl rfl ?_
            rintro _ w14 ⟨u11, rfl, ho, hb⟩
            refine ⟨_, rfl, ?_⟩; replace HS := Bx.mk (HS.out.later hb); replace HS2 := Bx.mk (HS2.out.add (St.ivNew (loc := RaidD.Own.loc) ho hb)); clear ho hb HF; clear a; intro a HF; refine ⟨HS.out, ?_⟩
            obtain ⟨B12, C13, hh⟩ : ∃ B B1, St w0 ([ivA RaidD.Own RaidD.Own.loc B B1 u11 (healY r p), boxA b10 1 25 (.agg #[.slice none 0 0]), ivA RaidD.Own RaidD.Own.loc B4 C5 u3 r, boxA b2 5 78 (.agg #[.int .i64 p.fAt, .int .i64 p.fBirth, .int .i64 p.fSize, .int .i64 p.fSum, .int .i64 p.fLevel]), boxA b1 1 77 (.agg #[.slice a0 ps.length c0])]) w14 := ⟨_, _, HS2.out⟩; replace HS2 := Bx.mk hh; clear hh
            refine wh_y 5 rfl (by kernel_rfl) (by kernel_rfl) (by kernel_rfl) (fun _ _ _ h => h) rfl HF rfl rfl (fun _ HS => (yl_move rfl (HF.ev rfl))) HS.out ?_; clear HF; clear a; intro a HF
            refine wh_y 6 rfl (by kernel_rfl) (by kernel_rfl) (by kernel_rfl) (fun _ _ _ h => h) rfl HF rfl rfl (fun _ HS => (yl_extract rfl (HF.ev rfl) rfl)) HS.out ?_; clear HF; clear a; intro a HF
            refine wh_y 7 rfl (by kernel_rfl) (by kernel_rfl) (by kernel_rfl) (fun _ _ _ h => h) rfl HF rfl rfl (fun _ HS => (yl_extract rfl (HF.ev rfl) rfl)) HS.out ?_; clear HF; clear a; intro a HF
            refine wh_y 8 rfl (by kernel_rfl) (by kernel_rfl) (by kernel_rfl) (fun _ _ _ h => h) rfl HF rfl rfl (fun _ HS => (yl_extract rfl (HF.ev rfl) rfl)) HS.out ?_; clear HF; clear a; intro a HF
            refine wh_one 10 (by kernel_rfl) ?_
            refine wo_storeBox rfl rfl rfl rfl (HF.ev rfl) (HF.ev rfl) HS2.out 1 rfl (RaidD.Own.cells (HS2.out.iv 0 rfl)) (by kernel_rfl) ?_
            clear HS HS2; intro w15 HS2; replace HS2 : Bx (St w0 ([ivA RaidD.Own RaidD.Own.loc B12 C13 u11 (healY r p), boxA b10 1 25 u11, ivA RaidD.Own RaidD.Own.loc B4 C5 u3 r, boxA b2 5 78 (.agg #[.int .i64 p.fAt, .int .i64 p.fBirth, .int .i64 p.fSize, .int .i64 p.fSum, .int .i64 p.fLevel]), boxA b1 1 77 (.agg #[.slice a0 ps.length c0])]) _) := ⟨HS2⟩
            have HS : Bx (St w0 ([boxA b2 5 78 (.agg #[.int .i64 p.fAt, .int .i64 p.fBirth, .int .i64 p.fSize, .int .i64 p.fSum, .int .i64 p.fLevel]), boxA b1 1 77 (.agg #[.slice a0 ps.length c0])]) _) := ⟨(((HS2.out.erase 2).erase 1).erase 0)⟩; refine ⟨HS.out, ?_⟩
            refine wh_y 11 rfl (by kernel_rfl) (by kernel_rfl) (by kernel_rfl) (fun _ _ _ h => h) rfl HF rfl rfl (fun _ HS => (yl_assign rfl (HF.ev rfl))) HS.out ?_; clear HF; clear a; intro a HF
            refine wh_y 12 rfl (by kernel_rfl) (by kernel_rfl) (by kernel_rfl) (fun _ _ _ h => h) rfl HF rfl rfl (fun _ HS => (yl_assign rfl (HF.ev rfl))) HS.out ?_; clear HF; clear a; intro a HF
            refine wh_done (by kernel_rfl) ?_
            replace HS := HS2; clear HS2
            replace HS : Bx (St w0 ([boxA b10 1 25 u11, ivA RaidD.Own RaidD.Own.loc B12 C13 u11 (healY r p), ivA RaidD.Own RaidD.Own.loc B4 C5 u3 r, boxA b2 5 78 (.agg #[.int .i64 p.fAt, .int .i64 p.fBirth, .int .i64 p.fSize, .int .i64 p.fSum, .int .i64 p.fLevel]), boxA b1 1 77 (.agg #[.slice a0 ps.length c0])]) _) := ⟨(((((HS.out).pick 4 rfl).pick 4 rfl).pick 4 rfl).pick 3 rfl).pick 4 rfl⟩
            exact on_mk ⟨_, _, _, _, _, _, _, HF.less _ ⟨rfl, rfl, rfl, rfl, rfl, rfl, rfl, rfl, rfl, rfl, rfl, rfl, rfl, rfl, trivial⟩, HS.out⟩
        · skip
          refine wo_alloc rfl rfl HF rfl rfl rfl (Z := [.slice none 0 0]) (by kernel_rfl) rfl HS2.out HS.out ?_; clear HF HS HS2; clear a; intro a w16 b14 HF HS2 HS; replace HS := Bx.mk HS; replace HS2 := Bx.mk HS2; refine ⟨HS.out, ?_⟩
          refine wh_one 3 (by kernel_rfl) ?_
          refine wo_callB rfl rfl HF rfl (enter_of Try.func36 (by kernel_rfl) rfl) (args := #[.agg #[.int .i64 p.fAt, .int .i64 p.fBirth, .int .i64 p.fSize, .int .i64 p.fSum, .int .i64 p.fLevel]]) rfl (v := .agg #[.int .i64 p.fAt, .int .i64 p.fBirth, .int .i64 p.fSize, .int .i64 p.fSum, .int .i64 p.fLevel]) (toPtr_any p _) rfl rfl ?_
          intro w17 hb; replace HS := Bx.mk (HS.out.later hb); replace HS2 := Bx.mk (HS2.out.later hb); clear hb HF; clear a; intro a HF; refine ⟨HS.out, ?_⟩
          refine wh_one 4 (by kernel_rfl) ?_
          refine wo_call rfl rfl HF rfl (enter_of Try.func33 (by kernel_rfl) rfl) (args := #[u3, .agg #[.int .i64 p.fAt, .int .i64 p.fBirth, .int .i64 p.fSize, .int .i64 p.fSum, .int .i64 p.fLevel]]) rfl (specHeal_own _ r p _ hft (RaidD.Own.rd (HS2.out.iv 1 rfl)) hf.n) rfl rfl ?_
          rintro _ w19 ⟨u15, rfl, ho, hb⟩
          refine ⟨_, rfl, ?_⟩; replace HS := Bx.mk (HS.out.later hb); replace HS2 := Bx.mk (HS2.out.add (St.ivNew (loc := RaidD.Own.loc) ho hb)); clear ho hb HF; clear a; intro a HF; refine ⟨HS.out, ?_⟩
          obtain ⟨B16, C17, hh⟩ : ∃ B B1, St w0 ([ivA RaidD.Own RaidD.Own.loc B B1 u15 (healY r p), boxA b14 1 25 (.agg #[.slice none 0 0]), ivA RaidD.Own RaidD.Own.loc B4 C5 u3 r, boxA b2 5 78 (.agg #[.int .i64 p.fAt, .int .i64 p.fBirth, .int .i64 p.fSize, .int .i64 p.fSum, .int .i64 p.fLevel]), boxA b1 1 77 (.agg #[.slice a0 ps.length c0])]) w19 := ⟨_, _, HS2.out⟩; replace HS2 := Bx.mk hh; clear hh
          refine wh_y 5 rfl (by kernel_rfl) (by kernel_rfl) (by kernel_rfl) (fun _ _ _ h => h) rfl HF rfl rfl (fun _ HS => (yl_move rfl (HF.ev rfl))) HS.out ?_; clear HF; clear a; intro a HF
          refine wh_y 6 rfl (by kernel_rfl) (by kernel_rfl) (by kernel_rfl) (fun _ _ _ h => h) rfl HF rfl rfl (fun _ HS => (yl_extract rfl (HF.ev rfl) rfl)) HS.out ?_; clear HF; clear a; intro a HF
          refine wh_y 7 rfl (by kernel_rfl) (by kernel_rfl) (by kernel_rfl) (fun _ _ _ h => h) rfl HF rfl rfl (fun _ HS => (yl_extract rfl (HF.ev rfl) rfl)) HS.out ?_; clear HF; clear a; intro a HF
          refine wh_y 8 rfl (by kernel_rfl) (by kernel_rfl) (by kernel_rfl) (fun _ _ _ h => h) rfl HF rfl rfl (fun _ HS => (yl_extract rfl (HF.ev rfl) rfl)) HS.out ?_; clear HF; clear a; intro a HF
          refine wh_one 10 (by kernel_rfl) ?_
          refine wo_storeBox rfl rfl rfl rfl (HF.ev rfl) (HF.ev rfl) HS2.out 1 rfl (RaidD.Own.cells (HS2.out.iv 0 rfl)) (by kernel_rfl) ?_
          clear HS HS2; intro w20 HS2; replace HS2 : Bx (St w0 ([ivA RaidD.Own RaidD.Own.loc B16 C17 u15 (healY r p), boxA b14 1 25 u15, ivA RaidD.Own RaidD.Own.loc B4 C5 u3 r, boxA b2 5 78 (.agg #[.int .i64 p.fAt, .int .i64 p.fBirth, .int .i64 p.fSize, .int .i64 p.fSum, .int .i64 p.fLevel]), boxA b1 1 77 (.agg #[.slice a0 ps.length c0])]) _) := ⟨HS2⟩
          have HS : Bx (St w0 ([boxA b2 5 78 (.agg #[.int .i64 p.fAt, .int .i64 p.fBirth, .int .i64 p.fSize, .int .i64 p.fSum, .int .i64 p.fLevel]), boxA b1 1 77 (.agg #[.slice a0 ps.length c0])]) _) := ⟨(((HS2.out.erase 2).erase 1).erase 0)⟩; refine ⟨HS.out, ?_⟩
          refine wh_y 11 rfl (by kernel_rfl) (by kernel_rfl) (by kernel_rfl) (fun _ _ _ h => h) rfl HF rfl rfl (fun _ HS => (yl_assign rfl (HF.ev rfl))) HS.out ?_; clear HF; clear a; intro a HF
          refine wh_y 12 rfl (by kernel_rfl) (by kernel_rfl) (by kernel_rfl) (fun _ _ _ h => h) rfl HF rfl rfl (fun _ HS => (yl_assign rfl (HF.ev rfl))) HS.out ?_; clear HF; clear a; intro a HF
          refine wh_done (by kernel_rfl) ?_
          replace HS := HS2; clear HS2
          replace HS : Bx (St w0 ([boxA b14 1 25 u15, ivA RaidD.Own RaidD.Own.loc B16 C17 u15 (healY r p), ivA RaidD.Own RaidD.Own.loc B4 C5 u3 r, boxA b2 5 78 (.agg #[.int .i64 p.fAt, .int .i64 p.fBirth, .int .i64 p.fSize, .int .i64 p.fSum, .int .i64 p.fLevel]), boxA b1 1 77 (.agg #[.slice a0 ps.length c0])]) _) := ⟨(((((HS.out).pick 4 rfl).pick 4 rfl).pick 4 rfl).pick 3 rfl).pick 4 rfl⟩
          exact on_mk ⟨_, _, _, _, _, _, _, HF.less _ ⟨rfl, rfl, rfl, rfl, rfl, rfl, rfl, rfl, rfl, rfl, rfl, rfl, rfl, rfl, trivial⟩, HS.out⟩
      · skip
        refine wo_alloc rfl rfl HF rfl rfl rfl (Z := [.slice none 0 0]) (by kernel_rfl) rfl HS2.out HS.out ?_; clear HF HS HS2; clear a; intro a w21 b18 HF HS2 HS; replace HS := Bx.mk HS; replace HS2 := Bx.mk HS2; refine ⟨HS.out, ?_⟩
        refine wh_one 1 (by kernel_rfl) ?_
        refine wo_call rfl rfl HF rfl (enter_of Try.func35 (by kernel_rfl) rfl) (args := #[.agg #[.slice a0 ps.length c0]]) rfl (toRaid_any _ r _ hf (HR.out.below HS.out.bel)) rfl rfl ?_
        rintro _ w23 ⟨u19, rfl, ho, hb⟩
        refine ⟨_, rfl, ?_⟩; replace HS := Bx.mk (HS.out.later hb); replace HS2 := Bx.mk (HS2.out.add (St.ivNew (loc := RaidD.Own.loc) ho hb)); clear ho hb HF; clear a; intro a HF; refine ⟨HS.out, ?_⟩
        obtain ⟨B20, C21, hh⟩ : ∃ B B1, St w0 ([ivA RaidD.Own RaidD.Own.loc B B1 u19 r, boxA b18 1 25 (.agg #[.slice none 0 0]), boxA b2 5 78 (.agg #[.int .i64 p.fAt, .int .i64 p.fBirth, .int .i64 p.fSize, .int .i64 p.fSum, .int .i64 p.fLevel]), boxA b1 1 77 (.agg #[.slice a0 ps.length c0])]) w23 := ⟨_, _, HS2.out⟩; replace HS2 := Bx.mk hh; clear hh
        refine wh_one 3 (by kernel_rfl) ?_
        refine wo_callB rfl rfl HF rfl (enter_of Try.func36 (by kernel_rfl) rfl) (args := #[.agg #[.int .i64 p.fAt, .int .i64 p.fBirth, .int .i64 p.fSize, .int .i64 p.fSum, .int .i64 p.fLevel]]) rfl (v := .agg #[.int .i64 p.fAt, .int .i64 p.fBirth, .int .i64 p.fSize, .int .i64 p.fSum, .int .i64 p.fLevel]) (toPtr_any p _) rfl rfl ?_
        intro w24 hb; replace HS := Bx.mk (HS.out.later hb); replace HS2 := Bx.mk (HS2.out.later hb); clear hb HF; clear a; intro a HF; refine ⟨HS.out, ?_⟩
        refine wh_one 4 (by kernel_rfl) ?_
        refine wo_call rfl rfl HF rfl (enter_of Try.func33 (by kernel_rfl) rfl) (args := #[u19, .agg #[.int .i64 p.fAt, .int .i64 p.fBirth, .int .i64 p.fSize, .int .i64 p.fSum, .int .i64 p.fLevel]]) rfl (specHeal_own _ r p _ hft (RaidD.Own.rd (HS2.out.iv 0 rfl)) hf.n) rfl rfl ?_
        rintro _ w26 ⟨u22, rfl, ho, hb⟩
        refine ⟨_, rfl, ?_⟩; replace HS := Bx.mk (HS.out.later hb); replace HS2 := Bx.mk (HS2.out.add (St.ivNew (loc := RaidD.Own.loc) ho hb)); clear ho hb HF; clear a; intro a HF; refine ⟨HS.out, ?_⟩
        obtain ⟨B23, C24, hh⟩ : ∃ B B1, St w0 ([ivA RaidD.Own RaidD.Own.loc B B1 u22 (healY r p), ivA RaidD.Own RaidD.Own.loc B20 C21 u19 r, boxA b18 1 25 (.agg #[.slice none 0 0]), boxA b2 5 78 (.agg #[.int .i64 p.fAt, .int .i64 p.fBirth, .int .i64 p.fSize, .int .i64 p.fSum, .int .i64 p.fLevel]), boxA b1 1 77 (.agg #[.slice a0 ps.length c0])]) w26 := ⟨_, _, HS2.out⟩; replace HS2 := Bx.mk hh; clear hh
        refine wh_y 5 rfl (by kernel_rfl) (by kernel_rfl) (by kernel_rfl) (fun _ _ _ h => h) rfl HF rfl rfl (fun _ HS => (yl_move rfl (HF.ev rfl))) HS.out ?_; clear HF; clear a; intro a HF
        refine wh_y 6 rfl (by kernel_rfl) (by kernel_rfl) (by kernel_rfl) (fun _ _ _ h => h) rfl HF rfl rfl (fun _ HS => (yl_extract rfl (HF.ev rfl) rfl)) HS.out ?_; clear HF; clear a; intro a HF
        refine wh_y 7 rfl (by kernel_rfl) (by kernel_rfl) (by kernel_rfl) (fun _ _ _ h => h) rfl HF rfl rfl (fun _ HS => (yl_extract rfl (HF.ev rfl) rfl)) HS.out ?_; clear HF; clear a; intro a HF
        refine wh_y 8 rfl (by kernel_rfl) (by kernel_rfl) (by kernel_rfl) (fun _ _ _ h => h) rfl HF rfl rfl (fun _ HS => (yl_extract rfl (HF.ev rfl) rfl)) HS.out ?_; clear HF; clear a; intro a HF
        refine wh_one 10 (by kernel_rfl) ?_
        refine wo_storeBox rfl rfl rfl rfl (HF.ev rfl) (HF.ev rfl) HS2.out 2 rfl (RaidD.Own.cells (HS2.out.iv 0 rfl)) (by kernel_rfl) ?_
        clear HS HS2; intro w27 HS2; replace HS2 : Bx (St w0 ([ivA RaidD.Own RaidD.Own.loc B23 C24 u22 (healY r p), ivA RaidD.Own RaidD.Own.loc B20 C21 u19 r, boxA b18 1 25 u22, boxA b2 5 78 (.agg #[.int .i64 p.fAt, .int .i64 p.fBirth, .int .i64 p.fSize, .int .i64 p.fSum, .int .i64 p.fLevel]), boxA b1 1 77 (.agg #[.slice a0 ps.length c0])]) _) := ⟨HS2⟩
        have HS : Bx (St w0 ([boxA b2 5 78 (.agg #[.int .i64 p.fAt, .int .i64 p.fBirth, .int .i64 p.fSize, .int .i64 p.fSum, .int .i64 p.fLevel]), boxA b1 1 77 (.agg #[.slice a0 ps.length c0])]) _) := ⟨(((HS2.out.erase 2).erase 1).erase 0)⟩; refine ⟨HS.out, ?_⟩
        refine wh_y 11 rfl (by kernel_rfl) (by kernel_rfl) (by kernel_rfl) (fun _ _ _ h => h) rfl HF rfl rfl (fun _ HS => (yl_assign rfl (HF.ev rfl))) HS.out ?_; clear HF; clear a; intro a HF
        refine wh_y 12 rfl (by kernel_rfl) (by kernel_rfl) (by kernel_rfl) (fun _ _ _ h => h) rfl HF rfl rfl (fun _ HS => (yl_assign rfl (HF.ev rfl))) HS.out ?_; clear HF; clear a; intro a HF
        refine wh_done (by kernel_rfl) ?_
        replace HS := HS2; clear HS2
        replace HS : Bx (St w0 ([boxA b18 1 25 u22, ivA RaidD.Own RaidD.Own.loc B23 C24 u22 (healY r p), ivA RaidD.Own RaidD.Own.loc B20 C21 u19 r, boxA b2 5 78 (.agg #[.int .i64 p.fAt, .int .i64 p.fBirth, .int .i64 p.fSize, .int .i64 p.fSum, .int .i64 p.fLevel]), boxA b1 1 77 (.agg #[.slice a0 ps.length c0])]) _) := ⟨(((((HS.out).pick 4 rfl).pick 4 rfl).pick 3 rfl).pick 3 rfl).pick 4 rfl⟩
        exact on_mk ⟨_, _, _, _, _, _, _, HF.less _ ⟨rfl, rfl, rfl, rfl, rfl, rfl, rfl, rfl, rfl, rfl, rfl, rfl, rfl, rfl, trivial⟩, HS.out⟩
    clear HF HS; clear a; rintro a w28 ⟨b9, u6, B7, C8, B4, C5, u3, HF, HS⟩; replace HS := Bx.mk HS
    refine ex_then ?_
    refine wp_seq ?_
    refine wp_region_lit ?_
    refine wl_y rfl HF rfl rfl (yl_loadR (cs := [.slice a0 ps.length c0]) rfl (HF.ev rfl) ((HS.out.box 4 rfl).sub 0 1) (by kernel_rfl)) ?_; clear HF; clear a; intro a HF
    refine wl_call rfl HF rfl (enter_of Try.func35 (by kernel_rfl) rfl) (args := #[.agg #[.slice a0 ps.length c0]]) rfl (toRaid_any _ r _ hf (HR.out.below HS.out.bel)) rfl rfl ?_
    rintro _ w29 ⟨u25, rfl, ho, hb⟩
    refine ⟨_, rfl, ?_⟩; replace HS := Bx.mk (HS.out.add (St.ivNew (loc := RaidD.Own.loc) ho hb)); clear ho hb HF; clear a; intro a HF
    obtain ⟨B26, C27, hh⟩ : ∃ B B1, St w0 ([ivA RaidD.Own RaidD.Own.loc B B1 u25 r, boxA b9 1 25 u6, ivA RaidD.Own RaidD.Own.loc B7 C8 u6 (healY r p), ivA RaidD.Own RaidD.Own.loc B4 C5 u3 r, boxA b2 5 78 (.agg #[.int .i64 p.fAt, .int .i64 p.fBirth, .int .i64 p.fSize, .int .i64 p.fSum, .int .i64 p.fLevel]), boxA b1 1 77 (.agg #[.slice a0 ps.length c0])]) w29 := ⟨_, _, HS.out⟩; replace HS := Bx.mk hh; clear hh
    refine wl_alloc rfl HF rfl rfl rfl (Z := [.slice none 0 0]) (by kernel_rfl) rfl HS.out ?_; clear HF HS; clear a; intro a w30 b28 HF HS; replace HS := Bx.mk HS
    refine wl_storeBox rfl HF rfl rfl (HF.ev rfl) (HF.ev rfl) HS.out 0 rfl (RaidD.Own.cells (HS.out.iv 1 rfl)) (by kernel_rfl) ?_; clear HS; intro w31 HS; replace HS := Bx.mk HS
    have HS : Bx (St w0 ([boxA b28 1 25 u25, ivA RaidD.Own RaidD.Own.loc B26 C27 u25 r, boxA b9 1 25 u6, ivA RaidD.Own RaidD.Own.loc B7 C8 u6 (healY r p), ivA RaidD.Own RaidD.Own.loc B4 C5 u3 r, boxA b2 5 78 (.agg #[.int .i64 p.fAt, .int .i64 p.fBirth, .int .i64 p.fSize, .int .i64 p.fSum, .int .i64 p.fLevel]), boxA b1 1 77 (.agg #[.slice a0 ps.length c0])]) _) := HS
    refine wpList_nil ?_
    refine ex_then ?_
    refine wp_seq ?_
    refine wp_join (R := fun a w => ∃ (b32 : Nat) (u29 : Value) (B30 : Nat) (C31 : Nat), Fr 125 a [(0, .agg #[.slice a0 ps.length c0]), (1, .agg #[.int .i64 p.fAt, .int .i64 p.fBirth, .int .i64 p.fSize, .int .i64 p.fSum, .int .i64 p.fLevel]), (2, .pointer (some ⟨b1, 0, none⟩)), (3, .pointer (some ⟨b2, 0, none⟩)), (4, .bool false), (5, .int .i64 (leftOf 1048576 r.bulk)), (19, .agg #[.slice a0 ps.length c0]), (20, .int .i64 1048576), (21, .int .i64 (leftOf 1048576 r.bulk)), (22, .int .i64 (leftOf 1048576 r.bulk)), (23, .bool false), (6, .pointer (some ⟨b9, 0, none⟩)), (7, .int .i64 (healN r p)), (8, .bool (healB r p)), (33, .agg #[.slice a0 ps.length c0]), (34, u25), (9, .pointer (some ⟨b28, 0, none⟩)), (10, .pointer (some ⟨b32, 0, none⟩)), (11, .int .i64 (healN r p)), (12, .bool (healB r p))] ∧ St w0 ([boxA b32 1 25 u29, ivA RaidD.Own RaidD.Own.loc B30 C31 u29 (healY r p), boxA b28 1 25 u25, ivA RaidD.Own RaidD.Own.loc B26 C27 u25 r, boxA b9 1 25 u6, ivA RaidD.Own RaidD.Own.loc B7 C8 u6 (healY r p), ivA RaidD.Own RaidD.Own.loc B4 C5 u3 r, boxA b2 5 78 (.agg #[.int .i64 p.fAt, .int .i64 p.fBirth, .int .i64 p.fSize, .int .i64 p.fSum, .int .i64 p.fLevel]), boxA b1 1 77 (.agg #[.slice a0 ps.length c0])]) w) ?_ ?_
    · skip
      refine wr_heldS (s := [boxA b28 1 25 u25, ivA RaidD.Own RaidD.Own.loc B26 C27 u25 r, boxA b9 1 25 u6, ivA RaidD.Own RaidD.Own.loc B7 C8 u6 (healY r p), ivA RaidD.Own RaidD.Own.loc B4 C5 u3 r, boxA b2 5 78 (.agg #[.int .i64 p.fAt, .int .i64 p.fBirth, .int .i64 p.fSize, .int .i64 p.fSum, .int .i64 p.fLevel]), boxA b1 1 77 (.agg #[.slice a0 ps.length c0])]) (by kernel_rfl) (St.drew (HS.out)) ?_
      have HS2 := Bx.mk HS.out.drew; replace HS := Bx.mk (show St w0 ([boxA b28 1 25 u25, ivA RaidD.Own RaidD.Own.loc B26 C27 u25 r, boxA b9 1 25 u6, ivA RaidD.Own RaidD.Own.loc B7 C8 u6 (healY r p), ivA RaidD.Own RaidD.Own.loc B4 C5 u3 r, boxA b2 5 78 (.agg #[.int .i64 p.fAt, .int .i64 p.fBirth, .int .i64 p.fSize, .int .i64 p.fSum, .int .i64 p.fLevel]), boxA b1 1 77 (.agg #[.slice a0 ps.length c0])]) _ from HS.out.drew)
      generalize World.drew _ = w32 at HS HS2 ⊢
      refine wh_y 0 rfl (by kernel_rfl) (by kernel_rfl) (by kernel_rfl) (fun _ _ _ h => h) rfl HF rfl rfl (fun _ HS => (yl_loadB (v := u25) rfl (HF.ev rfl) (HS.box 0 rfl) (by kernel_rfl))) HS.out ?_; clear HF; clear a; intro a HF
      refine wh_y 1 rfl (by kernel_rfl) (by kernel_rfl) (by kernel_rfl) (fun _ _ _ h => h) rfl HF rfl rfl (fun _ HS => (yl_loadR (cs := [.int .i64 p.fAt, .int .i64 p.fBirth, .int .i64 p.fSize, .int .i64 p.fSum, .int .i64 p.fLevel]) rfl (HF.ev rfl) ((HS.box 5 rfl).sub 0 5) (by kernel_rfl))) HS.out ?_; clear HF; clear a; intro a HF
      refine wh_two 2 8 (by kernel_rfl) ?_ ?_
      · skip
        refine wo_callB rfl rfl HF rfl (enter_of Try.func36 (by kernel_rfl) rfl) (args := #[.agg #[.int .i64 p.fAt, .int .i64 p.fBirth, .int .i64 p.fSize, .int .i64 p.fSum, .int .i64 p.fLevel]]) rfl (v := .agg #[.int .i64 p.fAt, .int .i64 p.fBirth, .int .i64 p.fSize, .int .i64 p.fSum, .int .i64 p.fLevel]) (toPtr_any p _) rfl rfl ?_
        intro w33 hb; replace HS := Bx.mk (HS.out.later hb); replace HS2 := Bx.mk (HS2.out.later hb); clear hb HF; clear a; intro a HF; refine ⟨HS.out, ?_⟩
        refine wh_two 3 8 (by kernel_rfl) ?_ ?_
        · skip
          refine wo_call rfl rfl HF rfl (enter_of Try.func21 (by kernel_rfl) rfl) (args := #[u25, .agg #[.int .i64 p.fAt, .int .i64 p.fBirth, .int .i64 p.fSize, .int .i64 p.fSum, .int .i64 p.fLevel]]) rfl (implHeal_own _ r p _ hft (RaidD.Own.rd (HS2.out.iv 1 rfl)) hf.n) rfl rfl ?_
          rintro _ w35 ⟨u29, rfl, ho, hb⟩
          refine ⟨_, rfl, ?_⟩; replace HS := Bx.mk (HS.out.later hb); replace HS2 := Bx.mk (HS2.out.add (St.ivNew (loc := RaidD.Own.loc) ho hb)); clear ho hb HF; clear a; intro a HF; refine ⟨HS.out, ?_⟩
          obtain ⟨B30, C31, hh⟩ : ∃ B B1, St w0 ([ivA RaidD.Own RaidD.Own.loc B B1 u29 (healY r p), boxA b28 1 25 u25, ivA RaidD.Own RaidD.Own.loc B26 C27 u25 r, boxA b9 1 25 u6, ivA RaidD.Own RaidD.Own.loc B7 C8 u6 (healY r p), ivA RaidD.Own RaidD.Own.loc B4 C5 u3 r, boxA b2 5 78 (.agg #[.int .i64 p.fAt, .int .i64 p.fBirth, .int .i64 p.fSize, .int .i64 p.fSum, .int .i64 p.fLevel]), boxA b1 1 77 (.agg #[.slice a0 ps.length c0])]) w35 := ⟨_, _, HS2.out⟩; replace HS2 := Bx.mk hh; clear hh
          refine wh_y 4 rfl (by kernel_rfl) (by kernel_rfl) (by kernel_rfl) (fun _ _ _ h => h) rfl HF rfl rfl (fun _ HS => (yl_move rfl (HF.ev rfl))) HS.out ?_; clear HF; clear a; intro a HF
          refine wh_y 5 rfl (by kernel_rfl) (by kernel_rfl) (by kernel_rfl) (fun _ _ _ h => h) rfl HF rfl rfl (fun _ HS => (yl_extract rfl (HF.ev rfl) rfl)) HS.out ?_; clear HF; clear a; intro a HF
          refine wh_y 6 rfl (by kernel_rfl) (by kernel_rfl) (by kernel_rfl) (fun _ _ _ h => h) rfl HF rfl rfl (fun _ HS => (yl_extract rfl (HF.ev rfl) rfl)) HS.out ?_; clear HF; clear a; intro a HF
          refine wh_y 7 rfl (by kernel_rfl) (by kernel_rfl) (by kernel_rfl) (fun _ _ _ h => h) rfl HF rfl rfl (fun _ HS => (yl_extract rfl (HF.ev rfl) rfl)) HS.out ?_; clear HF; clear a; intro a HF
          refine wh_one 8 (by kernel_rfl) ?_
          refine wo_alloc rfl rfl HF rfl rfl rfl (Z := [.slice none 0 0]) (by kernel_rfl) rfl HS2.out HS.out ?_; clear HF HS HS2; clear a; intro a w36 b32 HF HS2 HS; replace HS := Bx.mk HS; replace HS2 := Bx.mk HS2; refine ⟨HS.out, ?_⟩
          refine wh_one 9 (by kernel_rfl) ?_
          refine wo_storeBox rfl rfl rfl rfl (HF.ev rfl) (HF.ev rfl) HS2.out 0 rfl (RaidD.Own.cells (HS2.out.iv 1 rfl)) (by kernel_rfl) ?_
          clear HS HS2; intro w37 HS2; replace HS2 : Bx (St w0 ([boxA b32 1 25 u29, ivA RaidD.Own RaidD.Own.loc B30 C31 u29 (healY r p), boxA b28 1 25 u25, ivA RaidD.Own RaidD.Own.loc B26 C27 u25 r, boxA b9 1 25 u6, ivA RaidD.Own RaidD.Own.loc B7 C8 u6 (healY r p), ivA RaidD.Own RaidD.Own.loc B4 C5 u3 r, boxA b2 5 78 (.agg #[.int .i64 p.fAt, .int .i64 p.fBirth, .int .i64 p.fSize, .int .i64 p.fSum, .int .i64 p.fLevel]), boxA b1 1 77 (.agg #[.slice a0 ps.length c0])]) _) := ⟨HS2⟩
          have HS : Bx (St w0 ([boxA b28 1 25 u25, ivA RaidD.Own RaidD.Own.loc B26 C27 u25 r, boxA b9 1 25 u6, ivA RaidD.Own RaidD.Own.loc B7 C8 u6 (healY r p), ivA RaidD.Own RaidD.Own.loc B4 C5 u3 r, boxA b2 5 78 (.agg #[.int .i64 p.fAt, .int .i64 p.fBirth, .int .i64 p.fSize, .int .i64 p.fSum, .int .i64 p.fLevel]), boxA b1 1 77 (.agg #[.slice a0 ps.length c0])]) _) := ⟨((HS2.out.erase 1).erase 0)⟩; refine ⟨HS.out, ?_⟩
          refine wh_y 10 rfl (by kernel_rfl) (by kernel_rfl) (by kernel_rfl) (fun _ _ _ h => h) rfl HF rfl rfl (fun _ HS => (yl_assign rfl (HF.ev rfl))) HS.out ?_; clear HF; clear a; intro a HF
          refine wh_y 11 rfl (by kernel_rfl) (by kernel_rfl) (by kernel_rfl) (fun _ _ _ h => h) rfl HF rfl rfl (fun _ HS => (yl_assign rfl (HF.ev rfl))) HS.out ?_; clear HF; clear a; intro a HF
          refine wh_done (by kernel_rfl) ?_
          replace HS := HS2; clear HS2
          exact on_mk ⟨_, _, _, _, HF.less _ ⟨rfl, rfl, rfl, rfl, rfl, rfl, rfl, rfl, rfl, rfl, rfl, rfl, rfl, rfl, rfl, rfl, rfl, rfl, rfl, rfl, trivial⟩, HS.out⟩
        · skip
          refine wo_alloc rfl rfl HF rfl rfl rfl (Z := [.slice none 0 0]) (by kernel_rfl) rfl HS2.out HS.out ?_; clear HF HS HS2; clear a; intro a w38 b33 HF HS2 HS; replace HS := Bx.mk HS; replace HS2 := Bx.mk HS2; refine ⟨HS.out, ?_⟩
          refine wh_one 3 (by kernel_rfl) ?_
          refine wo_call rfl rfl HF rfl (enter_of Try.func21 (by kernel_rfl) rfl) (args := #[u25, .agg #[.int .i64 p.fAt, .int .i64 p.fBirth, .int .i64 p.fSize, .int .i64 p.fSum, .int .i64 p.fLevel]]) rfl (implHeal_own _ r p _ hft (RaidD.Own.rd (HS2.out.iv 2 rfl)) hf.n) rfl rfl ?_
          rintro _ w40 ⟨u34, rfl, ho, hb⟩
          refine ⟨_, rfl, ?_⟩; replace HS := Bx.mk (HS.out.later hb); replace HS2 := Bx.mk (HS2.out.add (St.ivNew (loc := RaidD.Own.loc) ho hb)); clear ho hb HF; clear a; intro a HF; refine ⟨HS.out, ?_⟩
          obtain ⟨B35, C36, hh⟩ : ∃ B B1, St w0 ([ivA RaidD.Own RaidD.Own.loc B B1 u34 (healY r p), boxA b33 1 25 (.agg #[.slice none 0 0]), boxA b28 1 25 u25, ivA RaidD.Own RaidD.Own.loc B26 C27 u25 r, boxA b9 1 25 u6, ivA RaidD.Own RaidD.Own.loc B7 C8 u6 (healY r p), ivA RaidD.Own RaidD.Own.loc B4 C5 u3 r, boxA b2 5 78 (.agg #[.int .i64 p.fAt, .int .i64 p.fBirth, .int .i64 p.fSize, .int .i64 p.fSum, .int .i64 p.fLevel]), boxA b1 1 77 (.agg #[.slice a0 ps.length c0])]) w40 := ⟨_, _, HS2.out⟩; replace HS2 := Bx.mk hh; clear hh
          refine wh_y 4 rfl (by kernel_rfl) (by kernel_rfl) (by kernel_rfl) (fun _ _ _ h => h) rfl HF rfl rfl (fun _ HS => (yl_move rfl (HF.ev rfl))) HS.out ?_; clear HF; clear a; intro a HF
          refine wh_y 5 rfl (by kernel_rfl) (by kernel_rfl) (by kernel_rfl) (fun _ _ _ h => h) rfl HF rfl rfl (fun _ HS => (yl_extract rfl (HF.ev rfl) rfl)) HS.out ?_; clear HF; clear a; intro a HF
          refine wh_y 6 rfl (by kernel_rfl) (by kernel_rfl) (by kernel_rfl) (fun _ _ _ h => h) rfl HF rfl rfl (fun _ HS => (yl_extract rfl (HF.ev rfl) rfl)) HS.out ?_; clear HF; clear a; intro a HF
          refine wh_y 7 rfl (by kernel_rfl) (by kernel_rfl) (by kernel_rfl) (fun _ _ _ h => h) rfl HF rfl rfl (fun _ HS => (yl_extract rfl (HF.ev rfl) rfl)) HS.out ?_; clear HF; clear a; intro a HF
          refine wh_one 9 (by kernel_rfl) ?_
          refine wo_storeBox rfl rfl rfl rfl (HF.ev rfl) (HF.ev rfl) HS2.out 1 rfl (RaidD.Own.cells (HS2.out.iv 0 rfl)) (by kernel_rfl) ?_
          clear HS HS2; intro w41 HS2; replace HS2 : Bx (St w0 ([ivA RaidD.Own RaidD.Own.loc B35 C36 u34 (healY r p), boxA b33 1 25 u34, boxA b28 1 25 u25, ivA RaidD.Own RaidD.Own.loc B26 C27 u25 r, boxA b9 1 25 u6, ivA RaidD.Own RaidD.Own.loc B7 C8 u6 (healY r p), ivA RaidD.Own RaidD.Own.loc B4 C5 u3 r, boxA b2 5 78 (.agg #[.int .i64 p.fAt, .int .i64 p.fBirth, .int .i64 p.fSize, .int .i64 p.fSum, .int .i64 p.fLevel]), boxA b1 1 77 (.agg #[.slice a0 ps.length c0])]) _) := ⟨HS2⟩
          have HS : Bx (St w0 ([boxA b28 1 25 u25, ivA RaidD.Own RaidD.Own.loc B26 C27 u25 r, boxA b9 1 25 u6, ivA RaidD.Own RaidD.Own.loc B7 C8 u6 (healY r p), ivA RaidD.Own RaidD.Own.loc B4 C5 u3 r, boxA b2 5 78 (.agg #[.int .i64 p.fAt, .int .i64 p.fBirth, .int .i64 p.fSize, .int .i64 p.fSum, .int .i64 p.fLevel]), boxA b1 1 77 (.agg #[.slice a0 ps.length c0])]) _) := ⟨((HS2.out.erase 1).erase 0)⟩; refine ⟨HS.out, ?_⟩
          refine wh_y 10 rfl (by kernel_rfl) (by kernel_rfl) (by kernel_rfl) (fun _ _ _ h => h) rfl HF rfl rfl (fun _ HS => (yl_assign rfl (HF.ev rfl))) HS.out ?_; clear HF; clear a; intro a HF
          refine wh_y 11 rfl (by kernel_rfl) (by kernel_rfl) (by kernel_rfl) (fun _ _ _ h => h) rfl HF rfl rfl (fun _ HS => (yl_assign rfl (HF.ev rfl))) HS.out ?_; clear HF; clear a; intro a HF
          refine wh_done (by kernel_rfl) ?_
          replace HS := HS2; clear HS2
          replace HS : Bx (St w0 ([boxA b33 1 25 u34, ivA RaidD.Own RaidD.Own.loc B35 C36 u34 (healY r p), boxA b28 1 25 u25, ivA RaidD.Own RaidD.Own.loc B26 C27 u25 r, boxA b9 1 25 u6, ivA RaidD.Own RaidD.Own.loc B7 C8 u6 (healY r p), ivA RaidD.Own RaidD.Own.loc B4 C5 u3 r, boxA b2 5 78 (.agg #[.int .i64 p.fAt, .int .i64 p.fBirth, .int .i64 p.fSize, .int .i64 p.fSum, .int .i64 p.fLevel]), boxA b1 1 77 (.agg #[.slice a0 ps.length c0])]) _) := ⟨(((((((((HS.out).pick 8 rfl).pick 8 rfl).pick 8 rfl).pick 8 rfl).pick 8 rfl).pick 8 rfl).pick 8 rfl).pick 7 rfl).pick 8 rfl⟩
          exact on_mk ⟨_, _, _, _, HF.less _ ⟨rfl, rfl, rfl, rfl, rfl, rfl, rfl, rfl, rfl, rfl, rfl, rfl, rfl, rfl, rfl, rfl, rfl, rfl, rfl, rfl, trivial⟩, HS.out⟩
      · skip
        refine wo_alloc rfl rfl HF rfl rfl rfl (Z := [.slice none 0 0]) (by kernel_rfl) rfl HS2.out HS.out ?_; clear HF HS HS2; clear a; intro a w42 b37 HF HS2 HS; replace HS := Bx.mk HS; replace HS2 := Bx.mk HS2; refine ⟨HS.out, ?_⟩
        refine wh_one 2 (by kernel_rfl) ?_
        refine wo_callB rfl rfl HF rfl (enter_of Try.func36 (by kernel_rfl) rfl) (args := #[.agg #[.int .i64 p.fAt, .int .i64 p.fBirth, .int .i64 p.fSize, .int .i64 p.fSum, .int .i64 p.fLevel]]) rfl (v := .agg #[.int .i64 p.fAt, .int .i64 p.fBirth, .int .i64 p.fSize, .int .i64 p.fSum, .int .i64 p.fLevel]) (toPtr_any p _) rfl rfl ?_
        intro w43 hb; replace HS := Bx.mk (HS.out.later hb); replace HS2 := Bx.mk (HS2.out.later hb); clear hb HF; clear a; intro a HF; refine ⟨HS.out, ?_⟩
        refine wh_one 3 (by kernel_rfl) ?_
        refine wo_call rfl rfl HF rfl (enter_of Try.func21 (by kernel_rfl) rfl) (args := #[u25, .agg #[.int .i64 p.fAt, .int .i64 p.fBirth, .int .i64 p.fSize, .int .i64 p.fSum, .int .i64 p.fLevel]]) rfl (implHeal_own _ r p _ hft (RaidD.Own.rd (HS2.out.iv 2 rfl)) hf.n) rfl rfl ?_
        rintro _ w45 ⟨u38, rfl, ho, hb⟩
        refine ⟨_, rfl, ?_⟩; replace HS := Bx.mk (HS.out.later hb); replace HS2 := Bx.mk (HS2.out.add (St.ivNew (loc := RaidD.Own.loc) ho hb)); clear ho hb HF; clear a; intro a HF; refine ⟨HS.out, ?_⟩
        obtain ⟨B39, C40, hh⟩ : ∃ B B1, St w0 ([ivA RaidD.Own RaidD.Own.loc B B1 u38 (healY r p), boxA b37 1 25 (.agg #[.slice none 0 0]), boxA b28 1 25 u25, ivA RaidD.Own RaidD.Own.loc B26 C27 u25 r, boxA b9 1 25 u6, ivA RaidD.Own RaidD.Own.loc B7 C8 u6 (healY r p), ivA RaidD.Own RaidD.Own.loc B4 C5 u3 r, boxA b2 5 78 (.agg #[.int .i64 p.fAt, .int .i64 p.fBirth, .int .i64 p.fSize, .int .i64 p.fSum, .int .i64 p.fLevel]), boxA b1 1 77 (.agg #[.slice a0 ps.length c0])]) w45 := ⟨_, _, HS2.out⟩; replace HS2 := Bx.mk hh; clear hh
        refine wh_y 4 rfl (by kernel_rfl) (by kernel_rfl) (by kernel_rfl) (fun _ _ _ h => h) rfl HF rfl rfl (fun _ HS => (yl_move rfl (HF.ev rfl))) HS.out ?_; clear HF; clear a; intro a HF
        refine wh_y 5 rfl (by kernel_rfl) (by kernel_rfl) (by kernel_rfl) (fun _ _ _ h => h) rfl HF rfl rfl (fun _ HS => (yl_extract rfl (HF.ev rfl) rfl)) HS.out ?_; clear HF; clear a; intro a HF
        refine wh_y 6 rfl (by kernel_rfl) (by kernel_rfl) (by kernel_rfl) (fun _ _ _ h => h) rfl HF rfl rfl (fun _ HS => (yl_extract rfl (HF.ev rfl) rfl)) HS.out ?_; clear HF; clear a; intro a HF
        refine wh_y 7 rfl (by kernel_rfl) (by kernel_rfl) (by kernel_rfl) (fun _ _ _ h => h) rfl HF rfl rfl (fun _ HS => (yl_extract rfl (HF.ev rfl) rfl)) HS.out ?_; clear HF; clear a; intro a HF
        refine wh_one 9 (by kernel_rfl) ?_
        refine wo_storeBox rfl rfl rfl rfl (HF.ev rfl) (HF.ev rfl) HS2.out 1 rfl (RaidD.Own.cells (HS2.out.iv 0 rfl)) (by kernel_rfl) ?_
        clear HS HS2; intro w46 HS2; replace HS2 : Bx (St w0 ([ivA RaidD.Own RaidD.Own.loc B39 C40 u38 (healY r p), boxA b37 1 25 u38, boxA b28 1 25 u25, ivA RaidD.Own RaidD.Own.loc B26 C27 u25 r, boxA b9 1 25 u6, ivA RaidD.Own RaidD.Own.loc B7 C8 u6 (healY r p), ivA RaidD.Own RaidD.Own.loc B4 C5 u3 r, boxA b2 5 78 (.agg #[.int .i64 p.fAt, .int .i64 p.fBirth, .int .i64 p.fSize, .int .i64 p.fSum, .int .i64 p.fLevel]), boxA b1 1 77 (.agg #[.slice a0 ps.length c0])]) _) := ⟨HS2⟩
        have HS : Bx (St w0 ([boxA b28 1 25 u25, ivA RaidD.Own RaidD.Own.loc B26 C27 u25 r, boxA b9 1 25 u6, ivA RaidD.Own RaidD.Own.loc B7 C8 u6 (healY r p), ivA RaidD.Own RaidD.Own.loc B4 C5 u3 r, boxA b2 5 78 (.agg #[.int .i64 p.fAt, .int .i64 p.fBirth, .int .i64 p.fSize, .int .i64 p.fSum, .int .i64 p.fLevel]), boxA b1 1 77 (.agg #[.slice a0 ps.length c0])]) _) := ⟨((HS2.out.erase 1).erase 0)⟩; refine ⟨HS.out, ?_⟩
        refine wh_y 10 rfl (by kernel_rfl) (by kernel_rfl) (by kernel_rfl) (fun _ _ _ h => h) rfl HF rfl rfl (fun _ HS => (yl_assign rfl (HF.ev rfl))) HS.out ?_; clear HF; clear a; intro a HF
        refine wh_y 11 rfl (by kernel_rfl) (by kernel_rfl) (by kernel_rfl) (fun _ _ _ h => h) rfl HF rfl rfl (fun _ HS => (yl_assign rfl (HF.ev rfl))) HS.out ?_; clear HF; clear a; intro a HF
        refine wh_done (by kernel_rfl) ?_
        replace HS := HS2; clear HS2
        replace HS : Bx (St w0 ([boxA b37 1 25 u38, ivA RaidD.Own RaidD.Own.loc B39 C40 u38 (healY r p), boxA b28 1 25 u25, ivA RaidD.Own RaidD.Own.loc B26 C27 u25 r, boxA b9 1 25 u6, ivA RaidD.Own RaidD.Own.loc B7 C8 u6 (healY r p), ivA RaidD.Own RaidD.Own.loc B4 C5 u3 r, boxA b2 5 78 (.agg #[.int .i64 p.fAt, .int .i64 p.fBirth, .int .i64 p.fSize, .int .i64 p.fSum, .int .i64 p.fLevel]), boxA b1 1 77 (.agg #[.slice a0 ps.length c0])]) _) := ⟨(((((((((HS.out).pick 8 rfl).pick 8 rfl).pick 8 rfl).pick 8 rfl).pick 8 rfl).pick 8 rfl).pick 8 rfl).pick 7 rfl).pick 8 rfl⟩
        exact on_mk ⟨_, _, _, _, HF.less _ ⟨rfl, rfl, rfl, rfl, rfl, rfl, rfl, rfl, rfl, rfl, rfl, rfl, rfl, rfl, rfl, rfl, rfl, rfl, rfl, rfl, trivial⟩, HS.out⟩
    clear HF HS; clear a; rintro a w47 ⟨b32, u29, B30, C31, HF, HS⟩; replace HS := Bx.mk HS
    refine ex_then ?_
    refine wp_seq ?_
    refine wp_seq ?_
    refine wp_region_lit ?_
    refine wl_y rfl HF rfl rfl (yl_loadB (v := u29) rfl (HF.ev rfl) (HS.out.box 0 rfl) (by kernel_rfl)) ?_; clear HF; clear a; intro a HF
    refine wl_y rfl HF rfl rfl (yl_loadB (v := u6) rfl (HF.ev rfl) (HS.out.box 4 rfl) (by kernel_rfl)) ?_; clear HF; clear a; intro a HF
    refine wl_callB rfl HF rfl (enter_of Try.func37 (by kernel_rfl) rfl) (args := #[u29, u6]) rfl (v := .bool true) (eqRaid_yes _ _ (healY r p) _ hfy (RaidD.Own.rd (HS.out.iv 1 rfl)) (RaidD.Own.rd (HS.out.iv 5 rfl))) rfl rfl HS.out ?_; clear HF HS; clear a; intro w48 a HS HF; replace HS := Bx.mk HS
    refine wl_y rfl HF rfl rfl (yl_not rfl (HF.ev rfl)) ?_; clear HF; clear a; intro a HF
    refine wl_y rfl HF rfl rfl (yl_move rfl (HF.ev rfl)) ?_; clear HF; clear a; intro a HF
    refine wl_yg HF rfl rfl rfl rfl rfl (yl_move rfl (HF.ev rfl)) ?_; clear HF; clear a; intro a HF
    refine wl_yg HF rfl rfl rfl rfl rfl (yl_move rfl (HF.ev rfl)) ?_; clear HF; clear a; intro a HF
    refine wl_yg HF rfl rfl rfl rfl rfl (yl_neqI rfl (HF.ev rfl) (HF.ev rfl)) ?_; clear HF; clear a; intro a HF
    refine wl_y rfl HF rfl rfl (yl_pick_f rfl (HF.ev rfl) (HF.ev rfl)) ?_; clear HF; clear a; intro a HF
    refine wl_y rfl HF rfl rfl (yl_move rfl (HF.ev rfl)) ?_; clear HF; clear a; intro a HF
    refine HF.cases 52 rfl (fun cc2 HF1 => ?_) (fun cc2 HF1 => ?_)
    · clear HF; have HF := HF1; clear HF1
      exact absurd cc2 (by simp)
    · clear HF; have HF := HF1; clear HF1
      refine wl_yg HF rfl rfl rfl rfl rfl (yl_move rfl (HF.ev rfl)) ?_; clear HF; clear a; intro a HF
      refine wl_yg HF rfl rfl rfl rfl rfl (yl_move rfl (HF.ev rfl)) ?_; clear HF; clear a; intro a HF
      refine wl_yg HF rfl rfl rfl rfl rfl (yl_neqBs rfl (HF.ev rfl) (HF.ev rfl) (by kernel_rfl)) ?_; clear HF; clear a; intro a HF
      refine wl_y rfl HF rfl rfl (yl_pick_f rfl (HF.ev rfl) (HF.ev rfl)) ?_; clear HF; clear a; intro a HF
      refine wpList_nil ?_
      refine ex_then ?_
      refine wc_false HF rfl ?_
      refine wp_skip ?_
      refine ex_then ?_
      refine wp_seq ?_
      refine wp_seq ?_
      refine wr_heldS (s := [boxA b32 1 25 u29, ivA RaidD.Own RaidD.Own.loc B30 C31 u29 (healY r p), boxA b28 1 25 u25, ivA RaidD.Own RaidD.Own.loc B26 C27 u25 r, boxA b9 1 25 u6, ivA RaidD.Own RaidD.Own.loc B7 C8 u6 (healY r p), ivA RaidD.Own RaidD.Own.loc B4 C5 u3 r, boxA b2 5 78 (.agg #[.int .i64 p.fAt, .int .i64 p.fBirth, .int .i64 p.fSize, .int .i64 p.fSum, .int .i64 p.fLevel]), boxA b1 1 77 (.agg #[.slice a0 ps.length c0])]) (by kernel_rfl) (St.drew (HS.out)) ?_
      have HS2 := Bx.mk HS.out.drew; replace HS := Bx.mk (show St w0 ([boxA b32 1 25 u29, ivA RaidD.Own RaidD.Own.loc B30 C31 u29 (healY r p), boxA b28 1 25 u25, ivA RaidD.Own RaidD.Own.loc B26 C27 u25 r, boxA b9 1 25 u6, ivA RaidD.Own RaidD.Own.loc B7 C8 u6 (healY r p), ivA RaidD.Own RaidD.Own.loc B4 C5 u3 r, boxA b2 5 78 (.agg #[.int .i64 p.fAt, .int .i64 p.fBirth, .int .i64 p.fSize, .int .i64 p.fSum, .int .i64 p.fLevel]), boxA b1 1 77 (.agg #[.slice a0 ps.length c0])]) _ from HS.out.drew)
      generalize World.drew _ = w49 at HS HS2 ⊢
      refine wh_y 0 rfl (by kernel_rfl) (by kernel_rfl) (by kernel_rfl) (fun _ _ _ h => h) rfl HF rfl rfl (fun _ HS => (yl_loadB (v := u25) rfl (HF.ev rfl) (HS.box 2 rfl) (by kernel_rfl))) HS.out ?_; clear HF; clear a; intro a HF
      refine wh_y 1 rfl (by kernel_rfl) (by kernel_rfl) (by kernel_rfl) (fun _ _ _ h => h) rfl HF rfl rfl (fun _ HS => (yl_loadR (cs := [.slice a0 ps.length c0]) rfl (HF.ev rfl) ((HS.box 8 rfl).sub 0 1) (by kernel_rfl))) HS.out ?_; clear HF; clear a; intro a HF
      refine wh_one 2 (by kernel_rfl) ?_
      refine wo_call rfl rfl HF rfl (enter_of Try.func35 (by kernel_rfl) rfl) (args := #[.agg #[.slice a0 ps.length c0]]) rfl (toRaid_any _ r _ hf (HR.out.below HS.out.bel)) rfl rfl ?_
      rintro _ w51 ⟨u41, rfl, ho, hb⟩
      refine ⟨_, rfl, ?_⟩; replace HS := Bx.mk (HS.out.later hb); replace HS2 := Bx.mk (HS2.out.add (St.ivNew (loc := RaidD.Own.loc) ho hb)); clear ho hb HF; clear a; intro a HF; refine ⟨HS.out, ?_⟩
      obtain ⟨B42, C43, hh⟩ : ∃ B B1, St w0 ([ivA RaidD.Own RaidD.Own.loc B B1 u41 r, boxA b32 1 25 u29, ivA RaidD.Own RaidD.Own.loc B30 C31 u29 (healY r p), boxA b28 1 25 u25, ivA RaidD.Own RaidD.Own.loc B26 C27 u25 r, boxA b9 1 25 u6, ivA RaidD.Own RaidD.Own.loc B7 C8 u6 (healY r p), ivA RaidD.Own RaidD.Own.loc B4 C5 u3 r, boxA b2 5 78 (.agg #[.int .i64 p.fAt, .int .i64 p.fBirth, .int .i64 p.fSize, .int .i64 p.fSum, .int .i64 p.fLevel]), boxA b1 1 77 (.agg #[.slice a0 ps.length c0])]) w51 := ⟨_, _, HS2.out⟩; replace HS2 := Bx.mk hh; clear hh
      refine wh_one 3 (by kernel_rfl) ?_
      refine wo_callB rfl rfl HF rfl (enter_of Try.func37 (by kernel_rfl) rfl) (args := #[u25, u41]) rfl (v := .bool true) (eqRaid_yes _ _ r _ hf (RaidD.Own.rd (HS2.out.iv 4 rfl)) (RaidD.Own.rd (HS2.out.iv 0 rfl))) rfl rfl ?_
      intro w52 hb; replace HS := Bx.mk (HS.out.later hb); replace HS2 := Bx.mk (HS2.out.later hb); clear hb HF; clear a; intro a HF; refine ⟨HS.out, ?_⟩
      refine wh_y 4 rfl (by kernel_rfl) (by kernel_rfl) (by kernel_rfl) (fun _ _ _ h => h) rfl HF rfl rfl (fun _ HS => (yl_not rfl (HF.ev rfl))) HS.out ?_; clear HF; clear a; intro a HF
      refine wh_done (by kernel_rfl) ?_
      replace HS := HS2; clear HS2
      refine ex_then ?_
      refine wc_false HF rfl ?_
      refine wp_skip ?_
      refine ex_then ?_
      refine wp_seq ?_
      refine wp_region_lit ?_
      refine wl_y rfl HF rfl rfl (yl_assign rfl (HF.ev rfl)) ?_; clear HF; clear a; intro a HF
      refine wpList_nil ?_
      refine ex_then ?_
      refine wp_seq ?_
      refine wp_region_lit ?_
      refine wl_y rfl HF rfl rfl (yl_loadB (v := u25) rfl (HF.ev rfl) (HS.out.box 3 rfl) (by kernel_rfl)) ?_; clear HF; clear a; intro a HF
      refine wl_y rfl HF rfl rfl (yl_move rfl (HF.ev rfl)) ?_; clear HF; clear a; intro a HF
      refine wl_call rfl HF rfl (enter_of Try.func38 (by kernel_rfl) rfl) (args := #[u25, .int .i64 1]) rfl (markRaid_any _ r _ _ 1 _ (by omega) (by omega) hf (HS.out.iv 4 rfl) (HS.out.ivLe 4 rfl) (HS.out.ivB 4 rfl)) rfl rfl ?_
      rintro _ w53 ⟨rfl, ho, hO⟩; refine ⟨_, rfl, ?_⟩; replace HS := Bx.mk (HS.out.ivMark 4 rfl ho hO); clear ho hO HF; clear a; intro a HF
      have HS : Bx (St w0 ([ivA RaidD.Own RaidD.Own.loc B42 C43 u41 r, boxA b32 1 25 u29, ivA RaidD.Own RaidD.Own.loc B30 C31 u29 (healY r p), boxA b28 1 25 u25, ivA RaidD.Own RaidD.Own.loc B26 C27 u25 (r.marked 1), boxA b9 1 25 u6, ivA RaidD.Own RaidD.Own.loc B7 C8 u6 (healY r p), ivA RaidD.Own RaidD.Own.loc B4 C5 u3 r, boxA b2 5 78 (.agg #[.int .i64 p.fAt, .int .i64 p.fBirth, .int .i64 p.fSize, .int .i64 p.fSum, .int .i64 p.fLevel]), boxA b1 1 77 (.agg #[.slice a0 ps.length c0])]) _) := HS
      have hpast := RaidD.past_pos1 r
      refine wl_y rfl HF rfl rfl (yl_assign rfl (HF.ev rfl)) ?_; clear HF; clear a; intro a HF
      refine wpList_nil ?_
      refine ex_then ?_
      refine wp_seq ?_
      refine wp_seq ?_
      refine wp_region_lit ?_
      refine wl_y rfl HF rfl rfl (yl_move rfl (HF.ev rfl)) ?_; clear HF; clear a; intro a HF
      refine wl_y rfl HF rfl rfl (yl_lssI rfl (HF.ev rfl) (HF.ev rfl)) ?_; clear HF; clear a; intro a HF
      refine wl_y rfl HF rfl rfl (yl_move rfl (HF.ev rfl)) ?_; clear HF; clear a; intro a HF
      refine HF.cases 67 rfl (fun cc3 HF1 => ?_) (fun cc3 HF1 => ?_)
      · clear HF; have HF := HF1; clear HF1
        exact absurd (of_decide_eq_true cc3) (by omega)
      · clear HF; have HF := HF1; clear HF1
        refine wl_yg HF rfl rfl rfl rfl rfl (yl_loadB (v := u29) rfl (HF.ev rfl) (HS.out.box 1 rfl) (by kernel_rfl)) ?_; clear HF; clear a; intro a HF
        refine wl_yg HF rfl rfl rfl rfl rfl (yl_loadB (v := u6) rfl (HF.ev rfl) (HS.out.box 5 rfl) (by kernel_rfl)) ?_; clear HF; clear a; intro a HF
        refine wl_callBg HF rfl rfl rfl rfl (enter_of Try.func37 (by kernel_rfl) rfl) (args := #[u29, u6]) rfl (v := .bool true) (eqRaid_yes _ _ (healY r p) _ hfy (RaidD.Own.rd (HS.out.iv 2 rfl)) (RaidD.Own.rd (HS.out.iv 6 rfl))) rfl rfl HS.out ?_; clear HF HS; clear a; intro w54 a HS HF; replace HS := Bx.mk HS
        refine wl_yg HF rfl rfl rfl rfl rfl (yl_not rfl (HF.ev rfl)) ?_; clear HF; clear a; intro a HF
        refine wl_y rfl HF rfl rfl (yl_pick_f rfl (HF.ev rfl) (HF.ev rfl)) ?_; clear HF; clear a; intro a HF
        refine wl_y rfl HF rfl rfl (yl_move rfl (HF.ev rfl)) ?_; clear HF; clear a; intro a HF
        refine wl_yg HF rfl rfl rfl rfl rfl (yl_move rfl (HF.ev rfl)) ?_; clear HF; clear a; intro a HF
        refine wl_yg HF rfl rfl rfl rfl rfl (yl_move rfl (HF.ev rfl)) ?_; clear HF; clear a; intro a HF
        refine wl_yg HF rfl rfl rfl rfl rfl (yl_neqI rfl (HF.ev rfl) (HF.ev rfl)) ?_; clear HF; clear a; intro a HF
        refine wl_y rfl HF rfl rfl (yl_pick_f rfl (HF.ev rfl) (HF.ev rfl)) ?_; clear HF; clear a; intro a HF
        refine wl_y rfl HF rfl rfl (yl_move rfl (HF.ev rfl)) ?_; clear HF; clear a; intro a HF
        refine HF.cases 78 rfl (fun cc4 HF1 => ?_) (fun cc4 HF1 => ?_)
        · clear HF; have HF := HF1; clear HF1
          exact absurd cc4 (by simp)
        · clear HF; have HF := HF1; clear HF1
          refine wl_yg HF rfl rfl rfl rfl rfl (yl_move rfl (HF.ev rfl)) ?_; clear HF; clear a; intro a HF
          refine wl_yg HF rfl rfl rfl rfl rfl (yl_move rfl (HF.ev rfl)) ?_; clear HF; clear a; intro a HF
          refine wl_yg HF rfl rfl rfl rfl rfl (yl_neqBs rfl (HF.ev rfl) (HF.ev rfl) (by kernel_rfl)) ?_; clear HF; clear a; intro a HF
          refine wl_y rfl HF rfl rfl (yl_pick_f rfl (HF.ev rfl) (HF.ev rfl)) ?_; clear HF; clear a; intro a HF
          refine wpList_nil ?_
          refine ex_then ?_
          refine wc_false HF rfl ?_
          refine wp_skip ?_
          refine ex_then ?_
          refine wp_seq ?_
          refine wp_region_lit ?_
          refine wl_y rfl HF rfl rfl (yl_assign rfl (HF.ev rfl)) ?_; clear HF; clear a; intro a HF
          refine wpList_nil ?_
          refine ex_then ?_
          refine wp_seq ?_
          refine wp_region_lit ?_
          refine wl_y rfl HF rfl rfl (yl_loadB (v := u29) rfl (HF.ev rfl) (HS.out.box 1 rfl) (by kernel_rfl)) ?_; clear HF; clear a; intro a HF
          refine wl_y rfl HF rfl rfl (yl_move rfl (HF.ev rfl)) ?_; clear HF; clear a; intro a HF
          refine wl_call rfl HF rfl (enter_of Try.func38 (by kernel_rfl) rfl) (args := #[u29, .int .i64 1]) rfl (markRaid_any _ (healY r p) _ _ 1 _ (by omega) (by omega) hfy (HS.out.iv 2 rfl) (HS.out.ivLe 2 rfl) (HS.out.ivB 2 rfl)) rfl rfl ?_
          rintro _ w55 ⟨rfl, ho, hO⟩; refine ⟨_, rfl, ?_⟩; replace HS := Bx.mk (HS.out.ivMark 2 rfl ho hO); clear ho hO HF; clear a; intro a HF
          have HS : Bx (St w0 ([ivA RaidD.Own RaidD.Own.loc B42 C43 u41 r, boxA b32 1 25 u29, ivA RaidD.Own RaidD.Own.loc B30 C31 u29 ((healY r p).marked 1), boxA b28 1 25 u25, ivA RaidD.Own RaidD.Own.loc B26 C27 u25 (r.marked 1), boxA b9 1 25 u6, ivA RaidD.Own RaidD.Own.loc B7 C8 u6 (healY r p), ivA RaidD.Own RaidD.Own.loc B4 C5 u3 r, boxA b2 5 78 (.agg #[.int .i64 p.fAt, .int .i64 p.fBirth, .int .i64 p.fSize, .int .i64 p.fSum, .int .i64 p.fLevel]), boxA b1 1 77 (.agg #[.slice a0 ps.length c0])]) _) := HS
          have hpast := RaidD.past_pos1 (healY r p)
          refine wl_y rfl HF rfl rfl (yl_assign rfl (HF.ev rfl)) ?_; clear HF; clear a; intro a HF
          refine wpList_nil ?_
          refine ex_then ?_
          refine wp_seq ?_
          refine wp_region_lit ?_
          refine wl_y rfl HF rfl rfl (yl_assign rfl (HF.ev rfl)) ?_; clear HF; clear a; intro a HF
          refine wpList_nil ?_
          refine ex_then ?_
          refine wp_seq ?_
          refine wp_region_lit ?_
          refine wl_y rfl HF rfl rfl (yl_loadB (v := u29) rfl (HF.ev rfl) (HS.out.box 1 rfl) (by kernel_rfl)) ?_; clear HF; clear a; intro a HF
          refine wl_y rfl HF rfl rfl (yl_move rfl (HF.ev rfl)) ?_; clear HF; clear a; intro a HF
          refine wl_callB rfl HF rfl (enter_of Try.func39 (by kernel_rfl) rfl) (args := #[u29, .int .i64 1]) rfl (v := .int .i64 ((healY r p).past 1)) (heldRaid_any _ (healY r p) 1 _ (by omega) (by omega) hfy (RaidD.Own.rd (HS.out.iv 2 rfl))) rfl rfl HS.out ?_; clear HF HS; clear a; intro w56 a HS HF; replace HS := Bx.mk HS
          refine wl_y rfl HF rfl rfl (yl_assign rfl (HF.ev rfl)) ?_; clear HF; clear a; intro a HF
          refine wpList_nil ?_
          refine ex_then ?_
          refine wp_seq ?_
          refine wp_seq ?_
          refine wp_region_lit ?_
          refine wl_y rfl HF rfl rfl (yl_move rfl (HF.ev rfl)) ?_; clear HF; clear a; intro a HF
          refine wl_y rfl HF rfl rfl (yl_lssI rfl (HF.ev rfl) (HF.ev rfl)) ?_; clear HF; clear a; intro a HF
          refine wpList_nil ?_
          refine ex_then ?_
          refine HF.cases 90 rfl (fun cc5 HF1 => ?_) (fun cc5 HF1 => ?_)
          · clear HF; have HF := HF1; clear HF1
            exact absurd (of_decide_eq_true cc5) (by omega)
          · clear HF; have HF := HF1; clear HF1
            refine wc_false HF rfl ?_
            refine wp_skip ?_
            refine ex_then ?_
            refine wp_seq ?_
            refine wp_seq ?_
            refine wp_region_lit ?_
            refine wl_y rfl HF rfl rfl (yl_move rfl (HF.ev rfl)) ?_; clear HF; clear a; intro a HF
            refine wl_y rfl HF rfl rfl (yl_move rfl (HF.ev rfl)) ?_; clear HF; clear a; intro a HF
            refine wl_y rfl HF rfl rfl (yl_neqI rfl (HF.ev rfl) (HF.ev rfl)) ?_; clear HF; clear a; intro a HF
            refine wpList_nil ?_
            refine ex_then ?_
            refine HF.cases 93 rfl (fun cc6 HF1 => ?_) (fun cc6 HF1 => ?_)
            · clear HF; have HF := HF1; clear HF1
              exact absurd cc6 (by simp)
            · clear HF; have HF := HF1; clear HF1
              refine wc_false HF rfl ?_
              refine wp_skip ?_
              refine ex_then ?_
              refine wp_seq ?_
              refine wp_join (R := fun a w => ∃ (b50 : Nat) (u47 : Value) (B48 : Nat) (C49 : Nat) (B45 : Nat) (C46 : Nat) (u44 : Value), Fr 125 a [(0, .agg #[.slice a0 ps.length c0]), (1, .agg #[.int .i64 p.fAt, .int .i64 p.fBirth, .int .i64 p.fSize, .int .i64 p.fSum, .int .i64 p.fLevel]), (2, .pointer (some ⟨b1, 0, none⟩)), (3, .pointer (some ⟨b2, 0, none⟩)), (4, .bool false), (5, .int .i64 (leftOf 1048576 r.bulk)), (19, .agg #[.slice a0 ps.length c0]), (20, .int .i64 1048576), (21, .int .i64 (leftOf 1048576 r.bulk)), (22, .int .i64 (leftOf 1048576 r.bulk)), (23, .bool false), (6, .pointer (some ⟨b9, 0, none⟩)), (7, .int .i64 (healN r p)), (8, .bool (healB r p)), (33, .agg #[.slice a0 ps.length c0]), (34, u25), (9, .pointer (some ⟨b28, 0, none⟩)), (10, .pointer (some ⟨b32, 0, none⟩)), (11, .int .i64 (healN r p)), (12, .bool (healB r p)), (43, u29), (44, u6), (45, .bool true), (46, .bool false), (47, .bool false), (48, .int .i64 (healN r p)), (49, .int .i64 (healN r p)), (50, .bool ((healN r p) != (healN r p))), (51, .bool ((healN r p) != (healN r p))), (52, .bool false), (53, .bool (healB r p)), (54, .bool (healB r p)), (55, .bool false), (56, .bool false), (57, u25), (58, .agg #[.slice a0 ps.length c0]), (59, u41), (60, .bool true), (61, .bool false), (13, .int .i64 (r.past 1)), (62, u25), (63, .int .i64 1), (64, .int .i64 (r.past 1)), (65, .int .i64 (r.past 1)), (66, .bool (decide ((r.past 1) < 0))), (67, .bool false), (68, u29), (69, u6), (70, .bool true), (71, .bool false), (72, .bool false), (73, .bool false), (74, .int .i64 (healN r p)), (75, .int .i64 (healN r p)), (76, .bool ((healN r p) != (healN r p))), (77, .bool ((healN r p) != (healN r p))), (78, .bool false), (79, .bool (healB r p)), (80, .bool (healB r p)), (81, .bool false), (82, .bool false), (14, .int .i64 ((healY r p).past 1)), (83, u29), (84, .int .i64 1), (85, .int .i64 ((healY r p).past 1)), (15, .int .i64 ((healY r p).past 1)), (86, u29), (87, .int .i64 1), (88, .int .i64 ((healY r p).past 1)), (89, .int .i64 ((healY r p).past 1)), (90, .bool false), (91, .int .i64 ((healY r p).past 1)), (92, .int .i64 ((healY r p).past 1)), (93, .bool false), (16, .pointer (some ⟨b50, 0, none⟩)), (17, .int .i64 (healN r p)), (18, .bool (healB r p))] ∧ St w0 ([boxA b50 1 25 u47, ivA RaidD.Own RaidD.Own.loc B48 C49 u47 (healY r p), ivA RaidD.Own RaidD.Own.loc B45 C46 u44 r, ivA RaidD.Own RaidD.Own.loc B42 C43 u41 r, boxA b32 1 25 u29, ivA RaidD.Own RaidD.Own.loc B30 C31 u29 ((healY r p).marked 1), boxA b28 1 25 u25, ivA RaidD.Own RaidD.Own.loc B26 C27 u25 (r.marked 1), boxA b9 1 25 u6, ivA RaidD.Own RaidD.Own.loc B7 C8 u6 (healY r p), ivA RaidD.Own RaidD.Own.loc B4 C5 u3 r, boxA b2 5 78 (.agg #[.int .i64 p.fAt, .int .i64 p.fBirth, .int .i64 p.fSize, .int .i64 p.fSum, .int .i64 p.fLevel]), boxA b1 1 77 (.agg #[.slice a0 ps.length c0])]) w) ?_ ?_
              · skip
                refine wr_heldS (s := [ivA RaidD.Own RaidD.Own.loc B42 C43 u41 r, boxA b32 1 25 u29, ivA RaidD.Own RaidD.Own.loc B30 C31 u29 ((healY r p).marked 1), boxA b28 1 25 u25, ivA RaidD.Own RaidD.Own.loc B26 C27 u25 (r.marked 1), boxA b9 1 25 u6, ivA RaidD.Own RaidD.Own.loc B7 C8 u6 (healY r p), ivA RaidD.Own RaidD.Own.loc B4 C5 u3 r, boxA b2 5 78 (.agg #[.int .i64 p.fAt, .int .i64 p.fBirth, .int .i64 p.fSize, .int .i64 p.fSum, .int .i64 p.fLevel]), boxA b1 1 77 (.agg #[.slice a0 ps.length c0])]) (by kernel_rfl) (St.drew (HS.out)) ?_
                have HS2 := Bx.mk HS.out.drew; replace HS := Bx.mk (show St w0 ([ivA RaidD.Own RaidD.Own.loc B42 C43 u41 r, boxA b32 1 25 u29, ivA RaidD.Own RaidD.Own.loc B30 C31 u29 ((healY r p).marked 1), boxA b28 1 25 u25, ivA RaidD.Own RaidD.Own.loc B26 C27 u25 (r.marked 1), boxA b9 1 25 u6, ivA RaidD.Own RaidD.Own.loc B7 C8 u6 (healY r p), ivA RaidD.Own RaidD.Own.loc B4 C5 u3 r, boxA b2 5 78 (.agg #[.int .i64 p.fAt, .int .i64 p.fBirth, .int .i64 p.fSize, .int .i64 p.fSum, .int .i64 p.fLevel]), boxA b1 1 77 (.agg #[.slice a0 ps.length c0])]) _ from HS.out.drew)
                generalize World.drew _ = w57 at HS HS2 ⊢
                refine wh_y 0 rfl (by kernel_rfl) (by kernel_rfl) (by kernel_rfl) (fun _ _ _ h => h) rfl HF rfl rfl (fun _ HS => (yl_loadR (cs := [.slice a0 ps.length c0]) rfl (HF.ev rfl) ((HS.box 9 rfl).sub 0 1) (by kernel_rfl))) HS.out ?_; clear HF; clear a; intro a HF
                refine wh_y 2 rfl (by kernel_rfl) (by kernel_rfl) (by kernel_rfl) (fun _ _ _ h => h) rfl HF rfl rfl (fun _ HS => (yl_loadR (cs := [.int .i64 p.fAt, .int .i64 p.fBirth, .int .i64 p.fSize, .int .i64 p.fSum, .int .i64 p.fLevel]) rfl (HF.ev rfl) ((HS.box 8 rfl).sub 0 5) (by kernel_rfl))) HS.out ?_; clear HF; clear a; intro a HF
                refine wh_two 1 9 (by kernel_rfl) ?_ ?_
                · skip
                  refine wo_call rfl rfl HF rfl (enter_of Try.func35 (by kernel_rfl) rfl) (args := #[.agg #[.slice a0 ps.length c0]]) rfl (toRaid_any _ r _ hf (HR.out.below HS.out.bel)) rfl rfl ?_
                  rintro _ w59 ⟨u44, rfl, ho, hb⟩
                  refine ⟨_, rfl, ?_⟩; replace HS := Bx.mk (HS.out.later hb); replace HS2 := Bx.mk (HS2.out.add (St.ivNew (loc := RaidD.Own.loc) ho hb)); clear ho hb HF; clear a; intro a HF; refine ⟨HS.out, ?_⟩
                  obtain ⟨B45, C46, hh⟩ : ∃ B B1, St w0 ([ivA RaidD.Own RaidD.Own.loc B B1 u44 r, ivA RaidD.Own RaidD.Own.loc B42 C43 u41 r, boxA b32 1 25 u29, ivA RaidD.Own RaidD.Own.loc B30 C31 u29 ((healY r p).marked 1), boxA b28 1 25 u25, ivA RaidD.Own RaidD.Own.loc B26 C27 u25 (r.marked 1), boxA b9 1 25 u6, ivA RaidD.Own RaidD.Own.loc B7 C8 u6 (healY r p), ivA RaidD.Own RaidD.Own.loc B4 C5 u3 r, boxA b2 5 78 (.agg #[.int .i64 p.fAt, .int .i64 p.fBirth, .int .i64 p.fSize, .int .i64 p.fSum, .int .i64 p.fLevel]), boxA b1 1 77 (.agg #[.slice a0 ps.length c0])]) w59 := ⟨_, _, HS2.out⟩; replace HS2 := Bx.mk hh; clear hh
                  refine wh_two 3 9 (by kernel_rfl) ?_ ?_
                  · skip
                    refine wo_callB rfl rfl HF rfl (enter_of Try.func36 (by kernel_rfl) rfl) (args := #[.agg #[.int .i64 p.fAt, .int .i64 p.fBirth, .int .i64 p.fSize, .int .i64 p.fSum, .int .i64 p.fLevel]]) rfl (v := .agg #[.int .i64 p.fAt, .int .i64 p.fBirth, .int .i64 p.fSize, .int .i64 p.fSum, .int .i64 p.fLevel]) (toPtr_any p _) rfl rfl ?_
                    intro w60 hb; replace HS := Bx.mk (HS.out.later hb); replace HS2 := Bx.mk (HS2.out.later hb); clear hb HF; clear a; intro a HF; refine ⟨HS.out, ?_⟩
                    refine wh_two 4 9 (by kernel_rfl) ?_ ?_
                    · skip
                      refine wo_call rfl rfl HF rfl (enter_of Try.func21 (by kernel_rfl) rfl) (args := #[u44, .agg #[.int .i64 p.fAt, .int .i64 p.fBirth, .int .i64 p.fSize, .int .i64 p.fSum, .int .i64 p.fLevel]]) rfl (implHeal_own _ r p _ hft (RaidD.Own.rd (HS2.out.iv 0 rfl)) hf.n) rfl rfl ?_
                      rintro _ w62 ⟨u47, rfl, ho, hb⟩
                      refine ⟨_, rfl, ?_⟩; replace HS := Bx.mk (HS.out.later hb); replace HS2 := Bx.mk (HS2.out.add (St.ivNew (loc := RaidD.Own.loc) ho hb)); clear ho hb HF; clear a; intro a HF; refine ⟨HS.out, ?_⟩
                      obtain ⟨B48, C49, hh⟩ : ∃ B B1, St w0 ([ivA RaidD.Own RaidD.Own.loc B B1 u47 (healY r p), ivA RaidD.Own RaidD.Own.loc B45 C46 u44 r, ivA RaidD.Own RaidD.Own.loc B42 C43 u41 r, boxA b32 1 25 u29, ivA RaidD.Own RaidD.Own.loc B30 C31 u29 ((healY r p).marked 1), boxA b28 1 25 u25, ivA RaidD.Own RaidD.Own.loc B26 C27 u25 (r.marked 1), boxA b9 1 25 u6, ivA RaidD.Own RaidD.Own.loc B7 C8 u6 (healY r p), ivA RaidD.Own RaidD.Own.loc B4 C5 u3 r, boxA b2 5 78 (.agg #[.int .i64 p.fAt, .int .i64 p.fBirth, .int .i64 p.fSize, .int .i64 p.fSum, .int .i64 p.fLevel]), boxA b1 1 77 (.agg #[.slice a0 ps.length c0])]) w62 := ⟨_, _, HS2.out⟩; replace HS2 := Bx.mk hh; clear hh
                      refine wh_y 5 rfl (by kernel_rfl) (by kernel_rfl) (by kernel_rfl) (fun _ _ _ h => h) rfl HF rfl rfl (fun _ HS => (yl_move rfl (HF.ev rfl))) HS.out ?_; clear HF; clear a; intro a HF
                      refine wh_y 6 rfl (by kernel_rfl) (by kernel_rfl) (by kernel_rfl) (fun _ _ _ h => h) rfl HF rfl rfl (fun _ HS => (yl_extract rfl (HF.ev rfl) rfl)) HS.out ?_; clear HF; clear a; intro a HF
                      refine wh_y 7 rfl (by kernel_rfl) (by kernel_rfl) (by kernel_rfl) (fun _ _ _ h => h) rfl HF rfl rfl (fun _ HS => (yl_extract rfl (HF.ev rfl) rfl)) HS.out ?_; clear HF; clear a; intro a HF
                      refine wh_y 8 rfl (by kernel_rfl) (by kernel_rfl) (by kernel_rfl) (fun _ _ _ h => h) rfl HF rfl rfl (fun _ HS => (yl_extract rfl (HF.ev rfl) rfl)) HS.out ?_; clear HF; clear a; intro a HF
                      refine wh_one 9 (by kernel_rfl) ?_
                      refine wo_alloc rfl rfl HF rfl rfl rfl (Z := [.slice none 0 0]) (by kernel_rfl) rfl HS2.out HS.out ?_; clear HF HS HS2; clear a; intro a w63 b50 HF HS2 HS; replace HS := Bx.mk HS; replace HS2 := Bx.mk HS2; refine ⟨HS.out, ?_⟩
                      refine wh_one 10 (by kernel_rfl) ?_
                      refine wo_storeBox rfl rfl rfl rfl (HF.ev rfl) (HF.ev rfl) HS2.out 0 rfl (RaidD.Own.cells (HS2.out.iv 1 rfl)) (by kernel_rfl) ?_
                      clear HS HS2; intro w64 HS2; replace HS2 : Bx (St w0 ([boxA b50 1 25 u47, ivA RaidD.Own RaidD.Own.loc B48 C49 u47 (healY r p), ivA RaidD.Own RaidD.Own.loc B45 C46 u44 r, ivA RaidD.Own RaidD.Own.loc B42 C43 u41 r, boxA b32 1 25 u29, ivA RaidD.Own RaidD.Own.loc B30 C31 u29 ((healY r p).marked 1), boxA b28 1 25 u25, ivA RaidD.Own RaidD.Own.loc B26 C27 u25 (r.marked 1), boxA b9 1 25 u6, ivA RaidD.Own RaidD.Own.loc B7 C8 u6 (healY r p), ivA RaidD.Own RaidD.Own.loc B4 C5 u3 r, boxA b2 5 78 (.agg #[.int .i64 p.fAt, .int .i64 p.fBirth, .int .i64 p.fSize, .int .i64 p.fSum, .int .i64 p.fLevel]), boxA b1 1 77 (.agg #[.slice a0 ps.length c0])]) _) := ⟨HS2⟩
                      have HS : Bx (St w0 ([ivA RaidD.Own RaidD.Own.loc B42 C43 u41 r, boxA b32 1 25 u29, ivA RaidD.Own RaidD.Own.loc B30 C31 u29 ((healY r p).marked 1), boxA b28 1 25 u25, ivA RaidD.Own RaidD.Own.loc B26 C27 u25 (r.marked 1), boxA b9 1 25 u6, ivA RaidD.Own RaidD.Own.loc B7 C8 u6 (healY r p), ivA RaidD.Own RaidD.Own.loc B4 C5 u3 r, boxA b2 5 78 (.agg #[.int .i64 p.fAt, .int .i64 p.fBirth, .int .i64 p.fSize, .int .i64 p.fSum, .int .i64 p.fLevel]), boxA b1 1 77 (.agg #[.slice a0 ps.length c0])]) _) := ⟨(((HS2.out.erase 2).erase 1).erase 0)⟩; refine ⟨HS.out, ?_⟩
                      refine wh_y 11 rfl (by kernel_rfl) (by kernel_rfl) (by kernel_rfl) (fun _ _ _ h => h) rfl HF rfl rfl (fun _ HS => (yl_assign rfl (HF.ev rfl))) HS.out ?_; clear HF; clear a; intro a HF
                      refine wh_y 12 rfl (by kernel_rfl) (by kernel_rfl) (by kernel_rfl) (fun _ _ _ h => h) rfl HF rfl rfl (fun _ HS => (yl_assign rfl (HF.ev rfl))) HS.out ?_; clear HF; clear a; intro a HF
                      refine wh_done (by kernel_rfl) ?_
                      replace HS := HS2; clear HS2
                      exact on_mk ⟨_, _, _, _, _, _, _, HF.less _ ⟨rfl, rfl, rfl, rfl, rfl, rfl, rfl, rfl, rfl, rfl, rfl, rfl, rfl, rfl, rfl, rfl, rfl, rfl, rfl, rfl, rfl, rfl, rfl, rfl, rfl, rfl, rfl, rfl, rfl, rfl, rfl, rfl, rfl, rfl, rfl, rfl, rfl, rfl, rfl, rfl, rfl, rfl, rfl, rfl, rfl, rfl, rfl, rfl, rfl, rfl, rfl, rfl, rfl, rfl, rfl, rfl, rfl, rfl, rfl, rfl, rfl, rfl, rfl, rfl, rfl, rfl, rfl, rfl, rfl, rfl, rfl, rfl, rfl, rfl, rfl, rfl, rfl, trivial⟩, HS.out⟩
                    · skip
                      refine wo_alloc rfl rfl HF rfl rfl rfl (Z := [.slice none 0 0]) (by kernel_rfl) rfl HS2.out HS.out ?_; clear HF HS HS2; clear a; intro a w65 b51 HF HS2 HS; replace HS := Bx.mk HS; replace HS2 := Bx.mk HS2; refine ⟨HS.out, ?_⟩
                      refine wh_one 4 (by kernel_rfl) ?_
                      refine wo_call rfl rfl HF rfl (enter_of Try.func21 (by kernel_rfl) rfl) (args := #[u44, .agg #[.int .i64 p.fAt, .int .i64 p.fBirth, .int .i64 p.fSize, .int .i64 p.fSum, .int .i64 p.fLevel]]) rfl (implHeal_own _ r p _ hft (RaidD.Own.rd (HS2.out.iv 1 rfl)) hf.n) rfl rfl ?_
                      rintro _ w67 ⟨u52, rfl, ho, hb⟩
                      refine ⟨_, rfl, ?_⟩; replace HS := Bx.mk (HS.out.later hb); replace HS2 := Bx.mk (HS2.out.add (St.ivNew (loc := RaidD.Own.loc) ho hb)); clear ho hb HF; clear a; intro a HF; refine ⟨HS.out, ?_⟩
                      obtain ⟨B53, C54, hh⟩ : ∃ B B1, St w0 ([ivA RaidD.Own RaidD.Own.loc B B1 u52 (healY r p), boxA b51 1 25 (.agg #[.slice none 0 0]), ivA RaidD.Own RaidD.Own.loc B45 C46 u44 r, ivA RaidD.Own RaidD.Own.loc B42 C43 u41 r, boxA b32 1 25 u29, ivA RaidD.Own RaidD.Own.loc B30 C31 u29 ((healY r p).marked 1), boxA b28 1 25 u25, ivA RaidD.Own RaidD.Own.loc B26 C27 u25 (r.marked 1), boxA b9 1 25 u6, ivA RaidD.Own RaidD.Own.loc B7 C8 u6 (healY r p), ivA RaidD.Own RaidD.Own.loc B4 C5 u3 r, boxA b2 5 78 (.agg #[.int .i64 p.fAt, .int .i64 p.fBirth, .int .i64 p.fSize, .int .i64 p.fSum, .int .i64 p.fLevel]), boxA b1 1 77 (.agg #[.slice a0 ps.length c0])]) w67 := ⟨_, _, HS2.out⟩; replace HS2 := Bx.mk hh; clear hh
                      refine wh_y 5 rfl (by kernel_rfl) (by kernel_rfl) (by kernel_rfl) (fun _ _ _ h => h) rfl HF rfl rfl (fun _ HS => (yl_move rfl (HF.ev rfl))) HS.out ?_; clear HF; clear a; intro a HF
                      refine wh_y 6 rfl (by kernel_rfl) (by kernel_rfl) (by kernel_rfl) (fun _ _ _ h => h) rfl HF rfl rfl (fun _ HS => (yl_extract rfl (HF.ev rfl) rfl)) HS.out ?_; clear HF; clear a; intro a HF
                      refine wh_y 7 rfl (by kernel_rfl) (by kernel_rfl) (by kernel_rfl) (fun _ _ _ h => h) rfl HF rfl rfl (fun _ HS => (yl_extract rfl (HF.ev rfl) rfl)) HS.out ?_; clear HF; clear a; intro a HF
                      refine wh_y 8 rfl (by kernel_rfl) (by kernel_rfl) (by kernel_rfl) (fun _ _ _ h => h) rfl HF rfl rfl (fun _ HS => (yl_extract rfl (HF.ev rfl) rfl)) HS.out ?_; clear HF; clear a; intro a HF
                      refine wh_one 10 (by kernel_rfl) ?_
                      refine wo_storeBox rfl rfl rfl rfl (HF.ev rfl) (HF.ev rfl) HS2.out 1 rfl (RaidD.Own.cells (HS2.out.iv 0 rfl)) (by kernel_rfl) ?_
                      clear HS HS2; intro w68 HS2; replace HS2 : Bx (St w0 ([ivA RaidD.Own RaidD.Own.loc B53 C54 u52 (healY r p), boxA b51 1 25 u52, ivA RaidD.Own RaidD.Own.loc B45 C46 u44 r, ivA RaidD.Own RaidD.Own.loc B42 C43 u41 r, boxA b32 1 25 u29, ivA RaidD.Own RaidD.Own.loc B30 C31 u29 ((healY r p).marked 1), boxA b28 1 25 u25, ivA RaidD.Own RaidD.Own.loc B26 C27 u25 (r.marked 1), boxA b9 1 25 u6, ivA RaidD.Own RaidD.Own.loc B7 C8 u6 (healY r p), ivA RaidD.Own RaidD.Own.loc B4 C5 u3 r, boxA b2 5 78 (.agg #[.int .i64 p.fAt, .int .i64 p.fBirth, .int .i64 p.fSize, .int .i64 p.fSum, .int .i64 p.fLevel]), boxA b1 1 77 (.agg #[.slice a0 ps.length c0])]) _) := ⟨HS2⟩
                      have HS : Bx (St w0 ([ivA RaidD.Own RaidD.Own.loc B42 C43 u41 r, boxA b32 1 25 u29, ivA RaidD.Own RaidD.Own.loc B30 C31 u29 ((healY r p).marked 1), boxA b28 1 25 u25, ivA RaidD.Own RaidD.Own.loc B26 C27 u25 (r.marked 1), boxA b9 1 25 u6, ivA RaidD.Own RaidD.Own.loc B7 C8 u6 (healY r p), ivA RaidD.Own RaidD.Own.loc B4 C5 u3 r, boxA b2 5 78 (.agg #[.int .i64 p.fAt, .int .i64 p.fBirth, .int .i64 p.fSize, .int .i64 p.fSum, .int .i64 p.fLevel]), boxA b1 1 77 (.agg #[.slice a0 ps.length c0])]) _) := ⟨(((HS2.out.erase 2).erase 1).erase 0)⟩; refine ⟨HS.out, ?_⟩
                      refine wh_y 11 rfl (by kernel_rfl) (by kernel_rfl) (by kernel_rfl) (fun _ _ _ h => h) rfl HF rfl rfl (fun _ HS => (yl_assign rfl (HF.ev rfl))) HS.out ?_; clear HF; clear a; intro a HF
                      refine wh_y 12 rfl (by kernel_rfl) (by kernel_rfl) (by kernel_rfl) (fun _ _ _ h => h) rfl HF rfl rfl (fun _ HS => (yl_assign rfl (HF.ev rfl))) HS.out ?_; clear HF; clear a; intro a HF
                      refine wh_done (by kernel_rfl) ?_
                      replace HS := HS2; clear HS2
                      replace HS : Bx (St w0 ([boxA b51 1 25 u52, ivA RaidD.Own RaidD.Own.loc B53 C54 u52 (healY r p), ivA RaidD.Own RaidD.Own.loc B45 C46 u44 r, ivA RaidD.Own RaidD.Own.loc B42 C43 u41 r, boxA b32 1 25 u29, ivA RaidD.Own RaidD.Own.loc B30 C31 u29 ((healY r p).marked 1), boxA b28 1 25 u25, ivA RaidD.Own RaidD.Own.loc B26 C27 u25 (r.marked 1), boxA b9 1 25 u6, ivA RaidD.Own RaidD.Own.loc B7 C8 u6 (healY r p), ivA RaidD.Own RaidD.Own.loc B4 C5 u3 r, boxA b2 5 78 (.agg #[.int .i64 p.fAt, .int .i64 p.fBirth, .int .i64 p.fSize, .int .i64 p.fSum, .int .i64 p.fLevel]), boxA b1 1 77 (.agg #[.slice a0 ps.length c0])]) _) := ⟨(((((((((((((HS.out).pick 12 rfl).pick 12 rfl).pick 12 rfl).pick 12 rfl).pick 12 rfl).pick 12 rfl).pick 12 rfl).pick 12 rfl).pick 12 rfl).pick 12 rfl).pick 12 rfl).pick 11 rfl).pick 12 rfl⟩
                      exact on_mk ⟨_, _, _, _, _, _, _, HF.less _ ⟨rfl, rfl, rfl, rfl, rfl, rfl, rfl, rfl, rfl, rfl, rfl, rfl, rfl, rfl, rfl, rfl, rfl, rfl, rfl, rfl, rfl, rfl, rfl, rfl, rfl, rfl, rfl, rfl, rfl, rfl, rfl, rfl, rfl, rfl, rfl, rfl, rfl, rfl, rfl, rfl, rfl, rfl, rfl, rfl, rfl, rfl, rfl, rfl, rfl, rfl, rfl, rfl, rfl, rfl, rfl, rfl, rfl, rfl, rfl, rfl, rfl, rfl, rfl, rfl, rfl, rfl, rfl, rfl, rfl, rfl, rfl, rfl, rfl, rfl, rfl, rfl, rfl, trivial⟩, HS.out⟩
                  · skip
                    refine wo_alloc rfl rfl HF rfl rfl rfl (Z := [.slice none 0 0]) (by kernel_rfl) rfl HS2.out HS.out ?_; clear HF HS HS2; clear a; intro a w69 b55 HF HS2 HS; replace HS := Bx.mk HS; replace HS2 := Bx.mk HS2; refine ⟨HS.out, ?_⟩
                    refine wh_one 3 (by kernel_rfl) ?_
                    refine wo_callB rfl rfl HF rfl (enter_of Try.func36 (by kernel_rfl) rfl) (args := #[.agg #[.int .i64 p.fAt, .int .i64 p.fBirth, .int .i64 p.fSize, .int .i64 p.fSum, .int .i64 p.fLevel]]) rfl (v := .agg #[.int .i64 p.fAt, .int .i64 p.fBirth, .int .i64 p.fSize, .int .i64 p.fSum, .int .i64 p.fLevel]) (toPtr_any p _) rfl rfl ?_
                    intro w70 hb; replace HS := Bx.mk (HS.out.later hb); replace HS2 := Bx.mk (HS2.out.later hb); clear hb HF; clear a; intro a HF; refine ⟨HS.out, ?_⟩
                    refine wh_one 4 (by kernel_rfl) ?_
                    refine wo_call rfl rfl HF rfl (enter_of Try.func21 (by kernel_rfl) rfl) (args := #[u44, .agg #[.int .i64 p.fAt, .int .i64 p.fBirth, .int .i64 p.fSize, .int .i64 p.fSum, .int .i64 p.fLevel]]) rfl (implHeal_own _ r p _ hft (RaidD.Own.rd (HS2.out.iv 1 rfl)) hf.n) rfl rfl ?_
                    rintro _ w72 ⟨u56, rfl, ho, hb⟩
                    refine ⟨_, rfl, ?_⟩; replace HS := Bx.mk (HS.out.later hb); replace HS2 := Bx.mk (HS2.out.add (St.ivNew (loc := RaidD.Own.loc) ho hb)); clear ho hb HF; clear a; intro a HF; refine ⟨HS.out, ?_⟩
                    obtain ⟨B57, C58, hh⟩ : ∃ B B1, St w0 ([ivA RaidD.Own RaidD.Own.loc B B1 u56 (healY r p), boxA b55 1 25 (.agg #[.slice none 0 0]), ivA RaidD.Own RaidD.Own.loc B45 C46 u44 r, ivA RaidD.Own RaidD.Own.loc B42 C43 u41 r, boxA b32 1 25 u29, ivA RaidD.Own RaidD.Own.loc B30 C31 u29 ((healY r p).marked 1), boxA b28 1 25 u25, ivA RaidD.Own RaidD.Own.loc B26 C27 u25 (r.marked 1), boxA b9 1 25 u6, ivA RaidD.Own RaidD.Own.loc B7 C8 u6 (healY r p), ivA RaidD.Own RaidD.Own.loc B4 C5 u3 r, boxA b2 5 78 (.agg #[.int .i64 p.fAt, .int .i64 p.fBirth, .int .i64 p.fSize, .int .i64 p.fSum, .int .i64 p.fLevel]), boxA b1 1 77 (.agg #[.slice a0 ps.length c0])]) w72 := ⟨_, _, HS2.out⟩; replace HS2 := Bx.mk hh; clear hh
                    refine wh_y 5 rfl (by kernel_rfl) (by kernel_rfl) (by kernel_rfl) (fun _ _ _ h => h) rfl HF rfl rfl (fun _ HS => (yl_move rfl (HF.ev rfl))) HS.out ?_; clear HF; clear a; intro a HF
                    refine wh_y 6 rfl (by kernel_rfl) (by kernel_rfl) (by kernel_rfl) (fun _ _ _ h => h) rfl HF rfl rfl (fun _ HS => (yl_extract rfl (HF.ev rfl) rfl)) HS.out ?_; clear HF; clear a; intro a HF
                    refine wh_y 7 rfl (by kernel_rfl) (by kernel_rfl) (by kernel_rfl) (fun _ _ _ h => h) rfl HF rfl rfl (fun _ HS => (yl_extract rfl (HF.ev rfl) rfl)) HS.out ?_; clear HF; clear a; intro a HF
                    refine wh_y 8 rfl (by kernel_rfl) (by kernel_rfl) (by kernel_rfl) (fun _ _ _ h => h) rfl HF rfl rfl (fun _ HS => (yl_extract rfl (HF.ev rfl) rfl)) HS.out ?_; clear HF; clear a; intro a HF
                    refine wh_one 10 (by kernel_rfl) ?_
                    refine wo_storeBox rfl rfl rfl rfl (HF.ev rfl) (HF.ev rfl) HS2.out 1 rfl (RaidD.Own.cells (HS2.out.iv 0 rfl)) (by kernel_rfl) ?_
                    clear HS HS2; intro w73 HS2; replace HS2 : Bx (St w0 ([ivA RaidD.Own RaidD.Own.loc B57 C58 u56 (healY r p), boxA b55 1 25 u56, ivA RaidD.Own RaidD.Own.loc B45 C46 u44 r, ivA RaidD.Own RaidD.Own.loc B42 C43 u41 r, boxA b32 1 25 u29, ivA RaidD.Own RaidD.Own.loc B30 C31 u29 ((healY r p).marked 1), boxA b28 1 25 u25, ivA RaidD.Own RaidD.Own.loc B26 C27 u25 (r.marked 1), boxA b9 1 25 u6, ivA RaidD.Own RaidD.Own.loc B7 C8 u6 (healY r p), ivA RaidD.Own RaidD.Own.loc B4 C5 u3 r, boxA b2 5 78 (.agg #[.int .i64 p.fAt, .int .i64 p.fBirth, .int .i64 p.fSize, .int .i64 p.fSum, .int .i64 p.fLevel]), boxA b1 1 77 (.agg #[.slice a0 ps.length c0])]) _) := ⟨HS2⟩
                    have HS : Bx (St w0 ([ivA RaidD.Own RaidD.Own.loc B42 C43 u41 r, boxA b32 1 25 u29, ivA RaidD.Own RaidD.Own.loc B30 C31 u29 ((healY r p).marked 1), boxA b28 1 25 u25, ivA RaidD.Own RaidD.Own.loc B26 C27 u25 (r.marked 1), boxA b9 1 25 u6, ivA RaidD.Own RaidD.Own.loc B7 C8 u6 (healY r p), ivA RaidD.Own RaidD.Own.loc B4 C5 u3 r, boxA b2 5 78 (.agg #[.int .i64 p.fAt, .int .i64 p.fBirth, .int .i64 p.fSize, .int .i64 p.fSum, .int .i64 p.fLevel]), boxA b1 1 77 (.agg #[.slice a0 ps.length c0])]) _) := ⟨(((HS2.out.erase 2).erase 1).erase 0)⟩; refine ⟨HS.out, ?_⟩
                    refine wh_y 11 rfl (by kernel_rfl) (by kernel_rfl) (by kernel_rfl) (fun _ _ _ h => h) rfl HF rfl rfl (fun _ HS => (yl_assign rfl (HF.ev rfl))) HS.out ?_; clear HF; clear a; intro a HF
                    refine wh_y 12 rfl (by kernel_rfl) (by kernel_rfl) (by kernel_rfl) (fun _ _ _ h => h) rfl HF rfl rfl (fun _ HS => (yl_assign rfl (HF.ev rfl))) HS.out ?_; clear HF; clear a; intro a HF
                    refine wh_done (by kernel_rfl) ?_
                    replace HS := HS2; clear HS2
                    replace HS : Bx (St w0 ([boxA b55 1 25 u56, ivA RaidD.Own RaidD.Own.loc B57 C58 u56 (healY r p), ivA RaidD.Own RaidD.Own.loc B45 C46 u44 r, ivA RaidD.Own RaidD.Own.loc B42 C43 u41 r, boxA b32 1 25 u29, ivA RaidD.Own RaidD.Own.loc B30 C31 u29 ((healY r p).marked 1), boxA b28 1 25 u25, ivA RaidD.Own RaidD.Own.loc B26 C27 u25 (r.marked 1), boxA b9 1 25 u6, ivA RaidD.Own RaidD.Own.loc B7 C8 u6 (healY r p), ivA RaidD.Own RaidD.Own.loc B4 C5 u3 r, boxA b2 5 78 (.agg #[.int .i64 p.fAt, .int .i64 p.fBirth, .int .i64 p.fSize, .int .i64 p.fSum, .int .i64 p.fLevel]), boxA b1 1 77 (.agg #[.slice a0 ps.length c0])]) _) := ⟨(((((((((((((HS.out).pick 12 rfl).pick 12 rfl).pick 12 rfl).pick 12 rfl).pick 12 rfl).pick 12 rfl).pick 12 rfl).pick 12 rfl).pick 12 rfl).pick 12 rfl).pick 12 rfl).pick 11 rfl).pick 12 rfl⟩
                    exact on_mk ⟨_, _, _, _, _, _, _, HF.less _ ⟨rfl, rfl, rfl, rfl, rfl, rfl, rfl, rfl, rfl, rfl, rfl, rfl, rfl, rfl, rfl, rfl, rfl, rfl, rfl, rfl, rfl, rfl, rfl, rfl, rfl, rfl, rfl, rfl, rfl, rfl, rfl, rfl, rfl, rfl, rfl, rfl, rfl, rfl, rfl, rfl, rfl, rfl, rfl, rfl, rfl, rfl, rfl, rfl, rfl, rfl, rfl, rfl, rfl, rfl, rfl, rfl, rfl, rfl, rfl, rfl, rfl, rfl, rfl, rfl, rfl, rfl, rfl, rfl, rfl, rfl, rfl, rfl, rfl, rfl, rfl, rfl, rfl, trivial⟩, HS.out⟩
                · skip
                  refine wo_alloc rfl rfl HF rfl rfl rfl (Z := [.slice none 0 0]) (by kernel_rfl) rfl HS2.out HS.out ?_; clear HF HS HS2; clear a; intro a w74 b59 HF HS2 HS; replace HS := Bx.mk HS; replace HS2 := Bx.mk HS2; refine ⟨HS.out, ?_⟩
                  refine wh_one 1 (by kernel_rfl) ?_
                  refine wo_call rfl rfl HF rfl (enter_of Try.func35 (by kernel_rfl) rfl) (args := #[.agg #[.slice a0 ps.length c0]]) rfl (toRaid_any _ r _ hf (HR.out.below HS.out.bel)) rfl rfl ?_
                  rintro _ w76 ⟨u60, rfl, ho, hb⟩
                  refine ⟨_, rfl, ?_⟩; replace HS := Bx.mk (HS.out.later hb); replace HS2 := Bx.mk (HS2.out.add (St.ivNew (loc := RaidD.Own.loc) ho hb)); clear ho hb HF; clear a; intro a HF; refine ⟨HS.out, ?_⟩
                  obtain ⟨B61, C62, hh⟩ : ∃ B B1, St w0 ([ivA RaidD.Own RaidD.Own.loc B B1 u60 r, boxA b59 1 25 (.agg #[.slice none 0 0]), ivA RaidD.Own RaidD.Own.loc B42 C43 u41 r, boxA b32 1 25 u29, ivA RaidD.Own RaidD.Own.loc B30 C31 u29 ((healY r p).marked 1), boxA b28 1 25 u25, ivA RaidD.Own RaidD.Own.loc B26 C27 u25 (r.marked 1), boxA b9 1 25 u6, ivA RaidD.Own RaidD.Own.loc B7 C8 u6 (healY r p), ivA RaidD.Own RaidD.Own.loc B4 C5 u3 r, boxA b2 5 78 (.agg #[.int .i64 p.fAt, .int .i64 p.fBirth, .int .i64 p.fSize, .int .i64 p.fSum, .int .i64 p.fLevel]), boxA b1 1 77 (.agg #[.slice a0 ps.length c0])]) w76 := ⟨_, _, HS2.out⟩; replace HS2 := Bx.mk hh; clear hh
                  refine wh_one 3 (by kernel_rfl) ?_
                  refine wo_callB rfl rfl HF rfl (enter_of Try.func36 (by kernel_rfl) rfl) (args := #[.agg #[.int .i64 p.fAt, .int .i64 p.fBirth, .int .i64 p.fSize, .int .i64 p.fSum, .int .i64 p.fLevel]]) rfl (v := .agg #[.int .i64 p.fAt, .int .i64 p.fBirth, .int .i64 p.fSize, .int .i64 p.fSum, .int .i64 p.fLevel]) (toPtr_any p _) rfl rfl ?_
                  intro w77 hb; replace HS := Bx.mk (HS.out.later hb); replace HS2 := Bx.mk (HS2.out.later hb); clear hb HF; clear a; intro a HF; refine ⟨HS.out, ?_⟩
                  refine wh_one 4 (by kernel_rfl) ?_
                  refine wo_call rfl rfl HF rfl (enter_of Try.func21 (by kernel_rfl) rfl) (args := #[u60, .agg #[.int .i64 p.fAt, .int .i64 p.fBirth, .int .i64 p.fSize, .int .i64 p.fSum, .int .i64 p.fLevel]]) rfl (implHeal_own _ r p _ hft (RaidD.Own.rd (HS2.out.iv 0 rfl)) hf.n) rfl rfl ?_
                  rintro _ w79 ⟨u63, rfl, ho, hb⟩
                  refine ⟨_, rfl, ?_⟩; replace HS := Bx.mk (HS.out.later hb); replace HS2 := Bx.mk (HS2.out.add (St.ivNew (loc := RaidD.Own.loc) ho hb)); clear ho hb HF; clear a; intro a HF; refine ⟨HS.out, ?_⟩
                  obtain ⟨B64, C65, hh⟩ : ∃ B B1, St w0 ([ivA RaidD.Own RaidD.Own.loc B B1 u63 (healY r p), ivA RaidD.Own RaidD.Own.loc B61 C62 u60 r, boxA b59 1 25 (.agg #[.slice none 0 0]), ivA RaidD.Own RaidD.Own.loc B42 C43 u41 r, boxA b32 1 25 u29, ivA RaidD.Own RaidD.Own.loc B30 C31 u29 ((healY r p).marked 1), boxA b28 1 25 u25, ivA RaidD.Own RaidD.Own.loc B26 C27 u25 (r.marked 1), boxA b9 1 25 u6, ivA RaidD.Own RaidD.Own.loc B7 C8 u6 (healY r p), ivA RaidD.Own RaidD.Own.loc B4 C5 u3 r, boxA b2 5 78 (.agg #[.int .i64 p.fAt, .int .i64 p.fBirth, .int .i64 p.fSize, .int .i64 p.fSum, .int .i64 p.fLevel]), boxA b1 1 77 (.agg #[.slice a0 ps.length c0])]) w79 := ⟨_, _, HS2.out⟩; replace HS2 := Bx.mk hh; clear hh
                  refine wh_y 5 rfl (by kernel_rfl) (by kernel_rfl) (by kernel_rfl) (fun _ _ _ h => h) rfl HF rfl rfl (fun _ HS => (yl_move rfl (HF.ev rfl))) HS.out ?_; clear HF; clear a; intro a HF
                  refine wh_y 6 rfl (by kernel_rfl) (by kernel_rfl) (by kernel_rfl) (fun _ _ _ h => h) rfl HF rfl rfl (fun _ HS => (yl_extract rfl (HF.ev rfl) rfl)) HS.out ?_; clear HF; clear a; intro a HF
                  refine wh_y 7 rfl (by kernel_rfl) (by kernel_rfl) (by kernel_rfl) (fun _ _ _ h => h) rfl HF rfl rfl (fun _ HS => (yl_extract rfl (HF.ev rfl) rfl)) HS.out ?_; clear HF; clear a; intro a HF
                  refine wh_y 8 rfl (by kernel_rfl) (by kernel_rfl) (by kernel_rfl) (fun _ _ _ h => h) rfl HF rfl rfl (fun _ HS => (yl_extract rfl (HF.ev rfl) rfl)) HS.out ?_; clear HF; clear a; intro a HF
                  refine wh_one 10 (by kernel_rfl) ?_
                  refine wo_storeBox rfl rfl rfl rfl (HF.ev rfl) (HF.ev rfl) HS2.out 2 rfl (RaidD.Own.cells (HS2.out.iv 0 rfl)) (by kernel_rfl) ?_
                  clear HS HS2; intro w80 HS2; replace HS2 : Bx (St w0 ([ivA RaidD.Own RaidD.Own.loc B64 C65 u63 (healY r p), ivA RaidD.Own RaidD.Own.loc B61 C62 u60 r, boxA b59 1 25 u63, ivA RaidD.Own RaidD.Own.loc B42 C43 u41 r, boxA b32 1 25 u29, ivA RaidD.Own RaidD.Own.loc B30 C31 u29 ((healY r p).marked 1), boxA b28 1 25 u25, ivA RaidD.Own RaidD.Own.loc B26 C27 u25 (r.marked 1), boxA b9 1 25 u6, ivA RaidD.Own RaidD.Own.loc B7 C8 u6 (healY r p), ivA RaidD.Own RaidD.Own.loc B4 C5 u3 r, boxA b2 5 78 (.agg #[.int .i64 p.fAt, .int .i64 p.fBirth, .int .i64 p.fSize, .int .i64 p.fSum, .int .i64 p.fLevel]), boxA b1 1 77 (.agg #[.slice a0 ps.length c0])]) _) := ⟨HS2⟩
                  have HS : Bx (St w0 ([ivA RaidD.Own RaidD.Own.loc B42 C43 u41 r, boxA b32 1 25 u29, ivA RaidD.Own RaidD.Own.loc B30 C31 u29 ((healY r p).marked 1), boxA b28 1 25 u25, ivA RaidD.Own RaidD.Own.loc B26 C27 u25 (r.marked 1), boxA b9 1 25 u6, ivA RaidD.Own RaidD.Own.loc B7 C8 u6 (healY r p), ivA RaidD.Own RaidD.Own.loc B4 C5 u3 r, boxA b2 5 78 (.agg #[.int .i64 p.fAt, .int .i64 p.fBirth, .int .i64 p.fSize, .int .i64 p.fSum, .int .i64 p.fLevel]), boxA b1 1 77 (.agg #[.slice a0 ps.length c0])]) _) := ⟨(((HS2.out.erase 2).erase 1).erase 0)⟩; refine ⟨HS.out, ?_⟩
                  refine wh_y 11 rfl (by kernel_rfl) (by kernel_rfl) (by kernel_rfl) (fun _ _ _ h => h) rfl HF rfl rfl (fun _ HS => (yl_assign rfl (HF.ev rfl))) HS.out ?_; clear HF; clear a; intro a HF
                  refine wh_y 12 rfl (by kernel_rfl) (by kernel_rfl) (by kernel_rfl) (fun _ _ _ h => h) rfl HF rfl rfl (fun _ HS => (yl_assign rfl (HF.ev rfl))) HS.out ?_; clear HF; clear a; intro a HF
                  refine wh_done (by kernel_rfl) ?_
                  replace HS := HS2; clear HS2
                  replace HS : Bx (St w0 ([boxA b59 1 25 u63, ivA RaidD.Own RaidD.Own.loc B64 C65 u63 (healY r p), ivA RaidD.Own RaidD.Own.loc B61 C62 u60 r, ivA RaidD.Own RaidD.Own.loc B42 C43 u41 r, boxA b32 1 25 u29, ivA RaidD.Own RaidD.Own.loc B30 C31 u29 ((healY r p).marked 1), boxA b28 1 25 u25, ivA RaidD.Own RaidD.Own.loc B26 C27 u25 (r.marked 1), boxA b9 1 25 u6, ivA RaidD.Own RaidD.Own.loc B7 C8 u6 (healY r p), ivA RaidD.Own RaidD.Own.loc B4 C5 u3 r, boxA b2 5 78 (.agg #[.int .i64 p.fAt, .int .i64 p.fBirth, .int .i64 p.fSize, .int .i64 p.fSum, .int .i64 p.fLevel]), boxA b1 1 77 (.agg #[.slice a0 ps.length c0])]) _) := ⟨(((((((((((((HS.out).pick 12 rfl).pick 12 rfl).pick 12 rfl).pick 12 rfl).pick 12 rfl).pick 12 rfl).pick 12 rfl).pick 12 rfl).pick 12 rfl).pick 12 rfl).pick 11 rfl).pick 11 rfl).pick 12 rfl⟩
                  exact on_mk ⟨_, _, _, _, _, _, _, HF.less _ ⟨rfl, rfl, rfl, rfl, rfl, rfl, rfl, rfl, rfl, rfl, rfl, rfl, rfl, rfl, rfl, rfl, rfl, rfl, rfl, rfl, rfl, rfl, rfl, rfl, rfl, rfl, rfl, rfl, rfl, rfl, rfl, rfl, rfl, rfl, rfl, rfl, rfl, rfl, rfl, rfl, rfl, rfl, rfl, rfl, rfl, rfl, rfl, rfl, rfl, rfl, rfl, rfl, rfl, rfl, rfl, rfl, rfl, rfl, rfl, rfl, rfl, rfl, rfl, rfl, rfl, rfl, rfl, rfl, rfl, rfl, rfl, rfl, rfl, rfl, rfl, rfl, rfl, trivial⟩, HS.out⟩
              clear HF HS; clear a; rintro a w81 ⟨b50, u47, B48, C49, B45, C46, u44, HF, HS⟩; replace HS := Bx.mk HS
              refine ex_then ?_
              refine wp_seq ?_
              refine wp_seq ?_
              refine wp_region_lit ?_
              refine wl_y rfl HF rfl rfl (yl_loadB (v := u47) rfl (HF.ev rfl) (HS.out.box 0 rfl) (by kernel_rfl)) ?_; clear HF; clear a; intro a HF
              refine wl_y rfl HF rfl rfl (yl_loadB (v := u6) rfl (HF.ev rfl) (HS.out.box 8 rfl) (by kernel_rfl)) ?_; clear HF; clear a; intro a HF
              refine wl_callB rfl HF rfl (enter_of Try.func37 (by kernel_rfl) rfl) (args := #[u47, u6]) rfl (v := .bool true) (eqRaid_yes _ _ (healY r p) _ hfy (RaidD.Own.rd (HS.out.iv 1 rfl)) (RaidD.Own.rd (HS.out.iv 9 rfl))) rfl rfl HS.out ?_; clear HF HS; clear a; intro w82 a HS HF; replace HS := Bx.mk HS
              refine wl_y rfl HF rfl rfl (yl_not rfl (HF.ev rfl)) ?_; clear HF; clear a; intro a HF
              refine wl_y rfl HF rfl rfl (yl_move rfl (HF.ev rfl)) ?_; clear HF; clear a; intro a HF
              refine wl_yg HF rfl rfl rfl rfl rfl (yl_move rfl (HF.ev rfl)) ?_; clear HF; clear a; intro a HF
              refine wl_yg HF rfl rfl rfl rfl rfl (yl_move rfl (HF.ev rfl)) ?_; clear HF; clear a; intro a HF
              refine wl_yg HF rfl rfl rfl rfl rfl (yl_neqI rfl (HF.ev rfl) (HF.ev rfl)) ?_; clear HF; clear a; intro a HF
              refine wl_y rfl HF rfl rfl (yl_pick_f rfl (HF.ev rfl) (HF.ev rfl)) ?_; clear HF; clear a; intro a HF
              refine wl_y rfl HF rfl rfl (yl_move rfl (HF.ev rfl)) ?_; clear HF; clear a; intro a HF
              refine HF.cases 112 rfl (fun cc7 HF1 => ?_) (fun cc7 HF1 => ?_)
              · clear HF; have HF := HF1; clear HF1
                exact absurd cc7 (by simp)
              · clear HF; have HF := HF1; clear HF1
                refine wl_yg HF rfl rfl rfl rfl rfl (yl_move rfl (HF.ev rfl)) ?_; clear HF; clear a; intro a HF
                refine wl_yg HF rfl rfl rfl rfl rfl (yl_move rfl (HF.ev rfl)) ?_; clear HF; clear a; intro a HF
                refine wl_yg HF rfl rfl rfl rfl rfl (yl_neqBs rfl (HF.ev rfl) (HF.ev rfl) (by kernel_rfl)) ?_; clear HF; clear a; intro a HF
                refine wl_y rfl HF rfl rfl (yl_pick_f rfl (HF.ev rfl) (HF.ev rfl)) ?_; clear HF; clear a; intro a HF
                refine wpList_nil ?_
                refine ex_then ?_
                refine wc_false HF rfl ?_
                refine wp_skip ?_
                refine ex_then ?_
                refine wp_seq ?_
                refine wp_region_lit ?_
                refine wl_y rfl HF rfl rfl (yl_assign rfl (HF.ev rfl)) ?_; clear HF; clear a; intro a HF
                refine wpList_nil ?_
                refine ex_then ?_
                refine wp_seq ?_
                refine wp_region_lit ?_
                refine wl_y rfl HF rfl rfl (yl_loadB (v := u29) rfl (HF.ev rfl) (HS.out.box 4 rfl) (by kernel_rfl)) ?_; clear HF; clear a; intro a HF
                refine wl_y rfl HF rfl rfl (yl_move rfl (HF.ev rfl)) ?_; clear HF; clear a; intro a HF
                refine wl_callB rfl HF rfl (enter_of Try.func39 (by kernel_rfl) rfl) (args := #[u29, .int .i64 1]) rfl (v := .int .i64 ((healY r p).past 1)) (heldRaid_any _ (healY r p) 1 _ (by omega) (by omega) hfy (RaidD.Own.rd (HS.out.iv 5 rfl))) rfl rfl HS.out ?_; clear HF HS; clear a; intro w83 a HS HF; replace HS := Bx.mk HS
                refine wl_y rfl HF rfl rfl (yl_assign rfl (HF.ev rfl)) ?_; clear HF; clear a; intro a HF
                refine wpList_nil ?_
                refine ex_then ?_
                refine wp_seq ?_
                refine wp_seq ?_
                refine wp_region_lit ?_
                refine wl_y rfl HF rfl rfl (yl_move rfl (HF.ev rfl)) ?_; clear HF; clear a; intro a HF
                refine wl_y rfl HF rfl rfl (yl_lssI rfl (HF.ev rfl) (HF.ev rfl)) ?_; clear HF; clear a; intro a HF
                refine wpList_nil ?_
                refine ex_then ?_
                refine HF.cases 121 rfl (fun cc8 HF1 => ?_) (fun cc8 HF1 => ?_)
                · clear HF; have HF := HF1; clear HF1
                  exact absurd (of_decide_eq_true cc8) (by omega)
                · clear HF; have HF := HF1; clear HF1
                  refine wc_false HF rfl ?_
                  refine wp_skip ?_
                  refine ex_then ?_
                  refine wp_seq ?_
                  refine wp_seq ?_
                  refine wp_region_lit ?_
                  refine wl_y rfl HF rfl rfl (yl_move rfl (HF.ev rfl)) ?_; clear HF; clear a; intro a HF
                  refine wl_y rfl HF rfl rfl (yl_move rfl (HF.ev rfl)) ?_; clear HF; clear a; intro a HF
                  refine wl_y rfl HF rfl rfl (yl_neqI rfl (HF.ev rfl) (HF.ev rfl)) ?_; clear HF; clear a; intro a HF
                  refine wpList_nil ?_
                  refine ex_then ?_
                  refine HF.cases 124 rfl (fun cc9 HF1 => ?_) (fun cc9 HF1 => ?_)
                  · clear HF; have HF := HF1; clear HF1
                    exact absurd cc9 (by simp)
                  · clear HF; have HF := HF1; clear HF1
                    refine wc_false HF rfl ?_
                    refine wp_skip ?_
                    refine ex_then ?_
                    refine wp_seq ?_
                    refine wp_region_lit ?_
                    refine wl_y rfl HF rfl rfl (yl_assign rfl (HF.ev rfl)) ?_; clear HF; clear a; intro a HF
                    refine wpList_nil ?_
                    refine ex_then ?_
                    refine wp_ret ?_
                    refine bp_ret1 HF Try.results8 (HF.res rfl) ?_
                    exact ⟨rfl, HS.out.bel⟩
end Go.Proofs.Ytfijfjjleelphaa
