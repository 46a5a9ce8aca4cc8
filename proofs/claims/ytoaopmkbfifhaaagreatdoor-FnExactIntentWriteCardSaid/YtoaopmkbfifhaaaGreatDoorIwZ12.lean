/- A part of the proof in YtoaopmkbfifhaaaGreatDoorIwZ22. -/
import Derived.ArgAppend
import Derived.BigQuiet
import Derived.BigRegion
import Derived.Deep.AppendLies
import Derived.Deep.MidRow
import Derived.Deep.Quiet
import Derived.Deep.QuietTactic
import Derived.Deep.RegionHeld3
import Derived.Deep.RegionWith
import Derived.IntWalk
import Derived.Laws.BytesArg
import Derived.Lib.Hide
import Derived.Lib.LazyBuf
import Derived.LoopIn
import Derived.LoopN
import Derived.LoopNIn
import Derived.Orders
import Derived.OrdersHeld
import Derived.OwnWalkIn
import Derived.RangeFuncLeaves
import Derived.RangeFuncNested
import Derived.Shelf.Abstract
import Derived.Still
import Derived.StillTail
import Derived.StillTailTactics
import Derived.TacticsInMore
import Derived.Test.YtoaopmkbfifhaaaGreatDoorRows
import Derived.WalkKit
import Derived.WalkLawsBesides
import Derived.WalkSpells
import Derived.Test.YtoaopmkbfifhaaaGreatDoorIwZ11
/- Writes to a set of disks, by the reference. -/
namespace Go.Proofs.YtoaopmkbfifhaaaGreatDoor
set_option linter.unusedVariables false
set_option linter.unusedSimpArgs false
set_option maxHeartbeats 1000000
set_option maxRecDepth 100000
open Go.RowKit

def encL (b : Bool) : List Value := [.bool b]
theorem encL_len (b : Bool) : (encL b).length = 1 := rfl
/-- What a round makes of each disk; none if one fails. -/
def eachTo (f : Nat → DiskD → Option DiskD) (ds : List DiskD) : Nat → Option (List DiskD)
  | 0 => some []
  | k + 1 => match eachTo f ds k with
    | none => none
    | some xs => match f k (ds.getD k default) with
      | none => none
      | some x => some (xs ++ [x])
theorem eachTo_next {f : Nat → DiskD → Option DiskD} {ds : List DiskD} {k : Nat} {xs : List DiskD} {x : DiskD} (h : eachTo f ds k = some xs) (hx : f k (ds.getD k default) = some x) : eachTo f ds (k + 1) = some (xs ++ [x]) := by
  unfold eachTo; rw [h]; simp only; rw [hx]
theorem eachTo_fail {f : Nat → DiskD → Option DiskD} {ds : List DiskD} {k n : Nat} (hx : f k (ds.getD k default) = none) (hk : k < n) : eachTo f ds n = none := by
  induction n with
  | zero => omega
  | succ n ih =>
    unfold eachTo
    by_cases h : k < n
    · rw [ih h]
    · obtain rfl : k = n := by omega
      cases eachTo f ds k with
      | none => rfl
      | some xs => simp only; rw [hx]
theorem eachTo_len {f : Nat → DiskD → Option DiskD} {ds : List DiskD} : ∀ {n : Nat} {xs : List DiskD}, eachTo f ds n = some xs → xs.length = n := by
  intro n
  induction n with
  | zero => intro xs h; obtain rfl : [] = xs := by simpa [eachTo] using h
            rfl
  | succ n ih =>
    intro xs h
    unfold eachTo at h
    cases h1 : eachTo f ds n with
    | none => rw [h1] at h; cases h
    | some ys =>
      rw [h1] at h
      simp only at h
      cases h2 : f n (ds.getD n default) with
      | none => rw [h2] at h; cases h
      | some y =>
        rw [h2] at h
        obtain rfl : ys ++ [y] = xs := by simpa using h
        rw [List.length_append, ih h1]; rfl
theorem eachTo_congr {f g : Nat → DiskD → Option DiskD} {ds : List DiskD} {n : Nat} (h : ∀ k, k < n → f k (ds.getD k default) = g k (ds.getD k default)) : eachTo f ds n = eachTo g ds n := by
  induction n with
  | zero => rfl
  | succ n ih =>
    unfold eachTo
    rw [ih (fun k hk => h k (by omega)), h n (by omega)]
def stepPut (row : Int) (col : Nat → ByteArray) (wanted : Nat → Bool) (i : Nat) (d : DiskD) : Option DiskD :=
  bif d.fGone || !wanted i then some d else bif d.can row (col i) then some (d.putD row (col i)) else none
theorem stepPut_skip {row : Int} {col : Nat → ByteArray} {wanted : Nat → Bool} {i : Nat} {d : DiskD} (h : (d.fGone || !wanted i) = true) : stepPut row col wanted i d = some d := by unfold stepPut; rw [h]; rfl
theorem stepPut_put {row : Int} {col : Nat → ByteArray} {wanted : Nat → Bool} {i : Nat} {d : DiskD} (h1 : d.fGone = false) (h2 : wanted i = true) (h3 : d.can row (col i) = true) : stepPut row col wanted i d = some (d.putD row (col i)) := by unfold stepPut; rw [h1, h2, h3]; rfl
theorem stepPut_fail {row : Int} {col : Nat → ByteArray} {wanted : Nat → Bool} {i : Nat} {d : DiskD} (h1 : d.fGone = false) (h2 : wanted i = true) (h3 : d.can row (col i) = false) : stepPut row col wanted i d = none := by unfold stepPut; rw [h1, h2, h3]; rfl
theorem l3WriteH_any (w0 w : World) (p : HD) (n : Int) (t : ByteArray) (F : List Asr) (hw : p.d.fWaits.length ≤ 1000) (ht : t.size ≤ 9223372036854775806) (hS : St w0 (p.asr :: F) w) : Calls Tryz.prog 111 #[.agg #[.slice p.a0 p.d.fCells.length p.c0, .slice p.a1 p.d.fWaits.length p.c1, .bool p.d.fGone], .int .i64 n, .string t] w fun e w' => ∃ q : HD, q.d = (if p.d.can n t then p.d.putD n t else p.d) ∧ e = .returned (.tuple #[.agg #[.slice q.a0 q.d.fCells.length q.c0, .slice q.a1 q.d.fWaits.length q.c1, .bool q.d.fGone], .bool (p.d.can n t)]) ∧ St w0 (q.asr :: F) w' := by
  refine (l3Write_any w0 w p.a0 p.c0 p.a1 p.c1 p.d n t F hw ht (St.join.2 hS)).mono ?_
  rintro e w' (⟨hc, rfl, hs⟩ | ⟨hc, a1, c1, rfl, hs⟩)
  · exact ⟨p, by rw [hc]; rfl, by rw [hc], (St.join (r := [_, _]) (s := F)).1 hs⟩
  · exact ⟨⟨p.a0, p.c0, a1, c1, p.d.putD n t⟩, by rw [hc]; rfl, by rw [hc]; rfl, (St.join (r := [_, _]) (s := F)).1 hs⟩
theorem list_split {α : Type} [Inhabited α] {qs ps : List α} {k : Nat} (hl : qs.length = ps.length) (hk : k < ps.length) (hd : qs.drop k = ps.drop k) : qs.getD k default = ps.getD k default := by
  rw [getD_get (by omega), getD_get hk]
  have h1 := List.drop_eq_getElem_cons (l := qs) (i := k) (by omega)
  have h2 := List.drop_eq_getElem_cons (l := ps) (i := k) hk
  rw [h1, h2] at hd
  exact (List.cons.inj hd).1
theorem take_set_succ {α : Type} (qs : List α) (k : Nat) (q : α) (hk : k < qs.length) : (qs.set k q).take (k + 1) = qs.take k ++ [q] := by
  rw [List.take_succ_eq_append_getElem (by rw [List.length_set]; exact hk), List.take_set_of_le (Nat.le_refl _), List.getElem_set_self]
theorem drop_set_succ {α : Type} (qs : List α) (k : Nat) (q : α) : (qs.set k q).drop (k + 1) = qs.drop (k + 1) := by
  rw [List.drop_set_of_lt (by omega)]

theorem l4Put_any (w0 w : World) (g c0 gc cc gb cb : Nat) (ps : List HD) (row : Int) (cols : List ByteArray) (wanted : List Bool) (F : List Asr) (hl : ps.length ≤ 1048576) (hc : ps.length ≤ cols.length) (hb : ps.length ≤ wanted.length) (hpw : ∀ k, (ps.getD k default).d.fWaits.length ≤ 1000) (hct : ∀ k, (cols.getD k ByteArray.empty).size ≤ 9223372036854775806) (hS : St w0 (rowA HD.cells 3 94 (.slice (some ⟨g, 0, none⟩) ps.length c0) ps :: sepA (ps.map HD.asr) :: rowA encS 1 9 (.slice (some ⟨gc, 0, none⟩) cols.length cc) cols :: rowA encL 1 4 (.slice (some ⟨gb, 0, none⟩) wanted.length cb) wanted :: F) w) : Calls Tryz.prog 63 #[.agg #[.slice (some ⟨g, 0, none⟩) ps.length c0], .int .i64 row, .slice (some ⟨gc, 0, none⟩) cols.length cc, .slice (some ⟨gb, 0, none⟩) wanted.length cb] w fun e w' => (eachTo (stepPut row (fun i => cols.getD i ByteArray.empty) (fun i => wanted.getD i false)) (dsOf ps) ps.length = none ∧ e = .returned (.tuple #[.agg #[.slice none 0 0], .bool false]) ∧ St w0 (rowA encS 1 9 (.slice (some ⟨gc, 0, none⟩) cols.length cc) cols :: rowA encL 1 4 (.slice (some ⟨gb, 0, none⟩) wanted.length cb) wanted :: F) w') ∨ (∃ qs : List HD, eachTo (stepPut row (fun i => cols.getD i ByteArray.empty) (fun i => wanted.getD i false)) (dsOf ps) ps.length = some (dsOf qs) ∧ e = .returned (.tuple #[.agg #[.slice (some ⟨g, 0, none⟩) ps.length c0], .bool true]) ∧ St w0 (rowA HD.cells 3 94 (.slice (some ⟨g, 0, none⟩) ps.length c0) qs :: sepA (qs.map HD.asr) :: rowA encS 1 9 (.slice (some ⟨gc, 0, none⟩) cols.length cc) cols :: rowA encL 1 4 (.slice (some ⟨gb, 0, none⟩) wanted.length cb) wanted :: F) w') := by
 have HS := Bx.mk hS; clear hS
 refine wc_enter Tryz.func63 rfl Tryz.ntmps63 [(0, .agg #[.slice (some ⟨g, 0, none⟩) ps.length c0]), (1, .int .i64 row), (2, .slice (some ⟨gc, 0, none⟩) cols.length cc), (3, .slice (some ⟨gb, 0, none⟩) wanted.length cb)] ⟨rfl, rfl, rfl, rfl, trivial⟩ rfl ?_; intro a HF
 refine wp_sr ?_
 refine wl_box rfl HF rfl (HF.ev rfl) (Z := [.slice (some ⟨g, 0, none⟩) ps.length c0]) rfl rfl rfl rfl HS.out ?_; clear HF HS a; intro a w1 b1 HF HS; replace HS := Bx.mk HS
 refine wl_alloc rfl HF rfl rfl rfl (Z := [.slice none 0 0]) (by kernel_rfl) rfl HS.out ?_; clear HF HS a; intro a w2 b2 HF HS; replace HS := Bx.mk HS
 refine wl_as HF rfl rfl rfl rfl rfl ?_; clear HF a; intro a HF
 refine wl_ne ?_
 refine wp_seq ?_
 refine wp_sr ?_
 refine wl_as HF rfl rfl rfl rfl rfl ?_; clear HF a; intro a HF
 refine wl_ne ?_
 refine wp_block ?_
 replace HS : Bx (St w0 (rowA HD.cells 3 94 (.slice (some ⟨g, 0, none⟩) ps.length c0) ps :: sepA (ps.map HD.asr) :: rowA encS 1 9 (.slice (some ⟨gc, 0, none⟩) cols.length cc) cols :: rowA encL 1 4 (.slice (some ⟨gb, 0, none⟩) wanted.length cb) wanted :: boxA b2 1 34 (.agg #[.slice none 0 0]) :: boxA b1 1 34 (.agg #[.slice (some ⟨g, 0, none⟩) ps.length c0]) :: F) _) := ⟨((((HS.out).pick 5 rfl).pick 5 rfl).pick 5 rfl).pick 5 rfl⟩
 refine wc_loop (ι := Nat) (fun k a w => ∃ (qs : List HD), (k ≤ ps.length ∧ qs.length = ps.length ∧ eachTo (stepPut row (fun i => cols.getD i ByteArray.empty) (fun i => wanted.getD i false)) (dsOf ps) k = some (dsOf (qs.take k)) ∧ qs.drop k = ps.drop k) ∧ Fr 56 a [(1, .int .i64 row), (2, .slice (some ⟨gc, 0, none⟩) cols.length cc), (3, .slice (some ⟨gb, 0, none⟩) wanted.length cb), (4, .pointer (some ⟨b1, 0, none⟩)), (8, .pointer (some ⟨b2, 0, none⟩)), (9, .bool false), (10, .int .i64 (k : Int))] ∧ St w0 (rowA HD.cells 3 94 (.slice (some ⟨g, 0, none⟩) ps.length c0) qs :: sepA (qs.map HD.asr) :: rowA encS 1 9 (.slice (some ⟨gc, 0, none⟩) cols.length cc) cols :: rowA encL 1 4 (.slice (some ⟨gb, 0, none⟩) wanted.length cb) wanted :: boxA b2 1 34 (.agg #[.slice none 0 0]) :: boxA b1 1 34 (.agg #[.slice (some ⟨g, 0, none⟩) ps.length c0]) :: F) w) (fun k => ps.length - k) 0 ⟨ps, ⟨Nat.zero_le _, rfl, rfl, rfl⟩, HF.less _ ⟨rfl, rfl, rfl, rfl, rfl, rfl, rfl, trivial⟩, HS.out⟩ ?_
 clear HF HS; clear a
 rintro k a w3 ⟨qs, ⟨hk, hql, hq, hqd0⟩, HF, HS⟩
 replace HS := Bx.mk HS
 refine wp_seq ?_
 refine wp_sr ?_
 refine wl_mv HF rfl rfl rfl rfl rfl ?_; clear HF a; intro a HF
 refine wl_y rfl HF rfl rfl (yl_fieldAddr (j := 0) rfl (HF.ev rfl) (by kernel_rfl)) ?_; clear HF a; intro a HF
 refine wl_y rfl HF rfl rfl (yl_load (v := .slice (some ⟨g, 0, none⟩) ps.length c0) rfl (HF.ev rfl) (((HS.out.box 5 rfl).cell 0).trans rfl) (by kernel_rfl)) ?_; clear HF a; intro a HF
 refine wl_y rfl HF rfl rfl (yl_lenL (e := 94) (size := 3) rfl (HF.ev rfl) (by kernel_rfl)) ?_; clear HF a; intro a HF
 refine wl_y rfl HF rfl rfl (yl_lssI rfl (HF.ev rfl) (HF.ev rfl)) ?_; clear HF a; intro a HF
 refine wl_ne ?_
 refine HF.cases 17 rfl (fun cc1 HF1 => ?_) (fun cc1 HF1 => ?_)
 ·clear HF; have HF := HF1; clear HF1
  have dcc1 := of_decide_eq_true cc1
  refine wc_true HF rfl ?_
  refine wp_skip ?_
  refine ex_then ?_
  refine wp_seq ?_
  refine wp_block ?_
  refine wp_seq ?_
  refine wp_seq ?_
  have hgk := list_split hql (show k < ps.length by omega) hqd0
  have hqw : (qs.getD k default).d.fWaits.length ≤ 1000 := by rw [hgk]; exact hpw k
  refine wp_region_lit ?_
  refine wl_y rfl HF rfl rfl (yl_fieldAddr (j := 0) rfl (HF.ev rfl) (by kernel_rfl)) ?_; clear HF a; intro a HF
  refine wl_y rfl HF rfl rfl (yl_load (v := .slice (some ⟨g, 0, none⟩) ps.length c0) rfl (HF.ev rfl) (((HS.out.box 5 rfl).cell 0).trans rfl) (by kernel_rfl)) ?_; clear HF a; intro a HF
  refine wl_mv HF rfl rfl rfl rfl rfl ?_; clear HF a; intro a HF
  refine wl_y rfl HF rfl rfl (yl_indexAddr (e := 94) (i := k) (size := 3) rfl (HF.ev rfl) (HF.ev rfl) (by kernel_rfl) rfl (by omega)) ?_; clear HF a; intro a HF
  refine wl_y rfl HF rfl rfl (yl_fieldAddr (j := 2) rfl (HF.ev rfl) (by kernel_rfl)) ?_; clear HF a; intro a HF
  refine wl_y rfl HF rfl rfl (yl_load (v := .bool ((qs.getD k default).d.fGone)) rfl (HF.ev rfl) (HS.out.elem HD.cells_len 0 rfl (get_getD (xs := qs) (j := k) (d := default) (by omega)) 2 _ rfl) (by kernel_rfl)) ?_; clear HF a; intro a HF
  refine wl_mv HF rfl rfl rfl rfl rfl ?_; clear HF a; intro a HF
  refine HF.cases 26 rfl (fun cc2 HF1 => ?_) (fun cc2 HF1 => ?_)
  ·clear HF; have HF := HF1; clear HF1
   refine wl_skip HF rfl rfl rfl rfl rfl rfl ?_; clear HF a; intro a HF
   refine wl_skip HF rfl rfl rfl rfl rfl rfl ?_; clear HF a; intro a HF
   refine wl_skip HF rfl rfl rfl rfl rfl rfl ?_; clear HF a; intro a HF
   refine wl_skip HF rfl rfl rfl rfl rfl rfl ?_; clear HF a; intro a HF
   refine wl_skip HF rfl rfl rfl rfl rfl rfl ?_; clear HF a; intro a HF
   refine wl_y rfl HF rfl rfl (yl_pick_t rfl (HF.ev rfl) (HF.ev rfl)) ?_; clear HF a; intro a HF
   refine wl_ne ?_
   refine wc_true HF rfl ?_
   refine wp_exit ?_
   refine ex_then_exit ?_
   refine ex_block_hit ?_
   refine ex_then ?_
   refine wp_region_lit ?_
   refine wl_mv HF rfl rfl rfl rfl rfl ?_; clear HF a; intro a HF
   refine wl_y rfl HF rfl rfl (yl_addI rfl (HF.ev rfl) (HF.ev rfl) (i64w (by omega))) ?_; clear HF a; intro a HF
   refine wl_as HF rfl rfl rfl rfl rfl ?_; clear HF a; intro a HF
   refine wl_ne ?_
   have hskip : ((ps.getD k default).d.fGone || !(wanted.getD k false)) = true := by rw [← hgk]; rw [cc2]; rfl
   have hnext : eachTo (stepPut row (fun i => cols.getD i ByteArray.empty) (fun i => wanted.getD i false)) (dsOf ps) (k + 1) = some (dsOf (qs.take (k + 1))) := by rw [dsOf_take_succ _ _ (by omega)]; refine eachTo_next hq ?_; rw [dsOf_get, stepPut_skip hskip, hgk]
   replace HS := Bx.mk ((((((((HS.out).pick 5 rfl).pick 5 rfl).pick 5 rfl).pick 5 rfl).pick 5 rfl).pick 5 rfl))
   exact ⟨k + 1, ⟨qs, ⟨by omega, hql, hnext, by rw [← List.drop_drop, ← List.drop_drop, hqd0]⟩, HF.less _ ⟨rfl, rfl, rfl, rfl, rfl, rfl, rfl, trivial⟩, HS.out⟩, (by omega)⟩
  ·clear HF; have HF := HF1; clear HF1
   refine wl_yg HF rfl rfl rfl rfl rfl (yl_move rfl (HF.ev rfl)) ?_; clear HF a; intro a HF
   refine wl_yg HF rfl rfl rfl rfl rfl (yl_move rfl (HF.ev rfl)) ?_; clear HF a; intro a HF
   refine wl_yg HF rfl rfl rfl rfl rfl (yl_indexAddr (e := 4) (i := k) (size := 1) rfl (HF.ev rfl) (HF.ev rfl) (by kernel_rfl) rfl (by omega)) ?_; clear HF a; intro a HF
   refine wl_yg HF rfl rfl rfl rfl rfl (yl_load (v := .bool (wanted.getD k false)) rfl (HF.ev rfl) (HS.out.elem1 encL_len 3 rfl (get_getD (xs := wanted) (j := k) (d := false) (by omega)) rfl) (by kernel_rfl)) ?_; clear HF a; intro a HF
   refine wl_yg HF rfl rfl rfl rfl rfl (yl_not rfl (HF.ev rfl)) ?_; clear HF a; intro a HF
   refine wl_y rfl HF rfl rfl (yl_pick_f rfl (HF.ev rfl) (HF.ev rfl)) ?_; clear HF a; intro a HF
   refine wl_ne ?_
   refine HF.cases 32 rfl (fun cc3 HF1 => ?_) (fun cc3 HF1 => ?_)
   ·clear HF; have HF := HF1; clear HF1
    refine wc_true HF rfl ?_
    refine wp_exit ?_
    refine ex_then_exit ?_
    refine ex_block_hit ?_
    refine ex_then ?_
    refine wp_region_lit ?_
    refine wl_mv HF rfl rfl rfl rfl rfl ?_; clear HF a; intro a HF
    refine wl_y rfl HF rfl rfl (yl_addI rfl (HF.ev rfl) (HF.ev rfl) (i64w (by omega))) ?_; clear HF a; intro a HF
    refine wl_as HF rfl rfl rfl rfl rfl ?_; clear HF a; intro a HF
    refine wl_ne ?_
    have hskip : ((ps.getD k default).d.fGone || !(wanted.getD k false)) = true := by rw [← hgk]; rw [cc2, Bool.false_or]; exact cc3
    have hnext : eachTo (stepPut row (fun i => cols.getD i ByteArray.empty) (fun i => wanted.getD i false)) (dsOf ps) (k + 1) = some (dsOf (qs.take (k + 1))) := by rw [dsOf_take_succ _ _ (by omega)]; refine eachTo_next hq ?_; rw [dsOf_get, stepPut_skip hskip, hgk]
    replace HS := Bx.mk ((((((((HS.out).pick 5 rfl).pick 5 rfl).pick 5 rfl).pick 5 rfl).pick 5 rfl).pick 5 rfl))
    exact ⟨k + 1, ⟨qs, ⟨by omega, hql, hnext, by rw [← List.drop_drop, ← List.drop_drop, hqd0]⟩, HF.less _ ⟨rfl, rfl, rfl, rfl, rfl, rfl, rfl, trivial⟩, HS.out⟩, (by omega)⟩
   ·clear HF; have HF := HF1; clear HF1
    refine wc_false HF rfl ?_
    refine wp_skip ?_
    refine ex_then ?_
    refine wp_seq ?_
    refine wr_heldS (s := rowA HD.cells 3 94 (.slice (some ⟨g, 0, none⟩) ps.length c0) qs :: rowA encS 1 9 (.slice (some ⟨gc, 0, none⟩) cols.length cc) cols :: rowA encL 1 4 (.slice (some ⟨gb, 0, none⟩) wanted.length cb) wanted :: boxA b2 1 34 (.agg #[.slice none 0 0]) :: boxA b1 1 34 (.agg #[.slice (some ⟨g, 0, none⟩) ps.length c0]) :: F) (by kernel_rfl) (St.drew ((HS.out.erase 1))) ?_
    have HS2 := Bx.mk HS.out.drew; replace HS := Bx.mk (show St w0 (rowA HD.cells 3 94 (.slice (some ⟨g, 0, none⟩) ps.length c0) qs :: rowA encS 1 9 (.slice (some ⟨gc, 0, none⟩) cols.length cc) cols :: rowA encL 1 4 (.slice (some ⟨gb, 0, none⟩) wanted.length cb) wanted :: boxA b2 1 34 (.agg #[.slice none 0 0]) :: boxA b1 1 34 (.agg #[.slice (some ⟨g, 0, none⟩) ps.length c0]) :: F) _ from (HS.out.drew.erase 1))
    generalize World.drew _ = w4 at HS HS2 ⊢
    refine wh_y 0 rfl (by kernel_rfl) (by kernel_rfl) (by kernel_rfl) (fun _ _ _ h => h) rfl HF rfl rfl (fun _ HS => (yl_fieldAddr (j := 0) rfl (HF.ev rfl) (by kernel_rfl))) HS.out ?_; clear HF a; intro a HF
    refine wh_y 1 rfl (by kernel_rfl) (by kernel_rfl) (by kernel_rfl) (fun _ _ _ h => h) rfl HF rfl rfl (fun _ HS => (yl_load (v := .slice (some ⟨g, 0, none⟩) ps.length c0) rfl (HF.ev rfl) (((HS.box 4 rfl).cell 0).trans rfl) (by kernel_rfl))) HS.out ?_; clear HF a; intro a HF
    refine wh_y 2 rfl (by kernel_rfl) (by kernel_rfl) (by kernel_rfl) (fun _ _ _ h => h) rfl HF rfl rfl (fun _ HS => (yl_move rfl (HF.ev rfl))) HS.out ?_; clear HF a; intro a HF
    refine wh_y 3 rfl (by kernel_rfl) (by kernel_rfl) (by kernel_rfl) (fun _ _ _ h => h) rfl HF rfl rfl (fun _ HS => (yl_indexAddr (e := 94) (i := k) (size := 3) rfl (HF.ev rfl) (HF.ev rfl) (by kernel_rfl) rfl (by omega))) HS.out ?_; clear HF a; intro a HF
    refine wh_y 4 rfl (by kernel_rfl) (by kernel_rfl) (by kernel_rfl) (fun _ _ _ h => h) rfl HF rfl rfl (fun _ HS => (yl_loadR (cs := [.slice ((qs.getD k default).a0) ((qs.getD k default).d.fCells.length) ((qs.getD k default).c0), .slice ((qs.getD k default).a1) ((qs.getD k default).d.fWaits.length) ((qs.getD k default).c1), .bool ((qs.getD k default).d.fGone)]) rfl (HF.ev rfl) (HS.elem HD.cells_len 0 rfl (get_getD (xs := qs) (j := k) (d := default) (by omega))) (by kernel_rfl))) HS.out ?_; clear HF a; intro a HF
    refine wh_y 5 rfl (by kernel_rfl) (by kernel_rfl) (by kernel_rfl) (fun _ _ _ h => h) rfl HF rfl rfl (fun _ HS => (yl_move rfl (HF.ev rfl))) HS.out ?_; clear HF a; intro a HF
    refine wh_y 6 rfl (by kernel_rfl) (by kernel_rfl) (by kernel_rfl) (fun _ _ _ h => h) rfl HF rfl rfl (fun _ HS => (yl_move rfl (HF.ev rfl))) HS.out ?_; clear HF a; intro a HF
    refine wh_y 7 rfl (by kernel_rfl) (by kernel_rfl) (by kernel_rfl) (fun _ _ _ h => h) rfl HF rfl rfl (fun _ HS => (yl_move rfl (HF.ev rfl))) HS.out ?_; clear HF a; intro a HF
    refine wh_y 8 rfl (by kernel_rfl) (by kernel_rfl) (by kernel_rfl) (fun _ _ _ h => h) rfl HF rfl rfl (fun _ HS => (yl_indexAddr (e := 9) (i := k) (size := 1) rfl (HF.ev rfl) (HF.ev rfl) (by kernel_rfl) rfl (by omega))) HS.out ?_; clear HF a; intro a HF
    refine wh_y 9 rfl (by kernel_rfl) (by kernel_rfl) (by kernel_rfl) (fun _ _ _ h => h) rfl HF rfl rfl (fun _ HS => (yl_load (v := .string (cols.getD k ByteArray.empty)) rfl (HF.ev rfl) (HS.elem1 encS_len 1 rfl (get_getD (xs := cols) (j := k) (d := ByteArray.empty) (by omega)) rfl) (by kernel_rfl))) HS.out ?_; clear HF a; intro a HF
    refine wh_two 10 14 (by kernel_rfl) ?_ ?_
    ·skip
     replace HS2 := Bx.mk ((HS2.out.pick 1 rfl).hdOut k (by omega))
     replace HS2 : Bx (St w0 (HD.asr (qs.getD k default) :: sepA ((qs.eraseIdx k).map HD.asr) :: rowA HD.cells 3 94 (.slice (some ⟨g, 0, none⟩) ps.length c0) qs :: rowA encS 1 9 (.slice (some ⟨gc, 0, none⟩) cols.length cc) cols :: rowA encL 1 4 (.slice (some ⟨gb, 0, none⟩) wanted.length cb) wanted :: boxA b2 1 34 (.agg #[.slice none 0 0]) :: boxA b1 1 34 (.agg #[.slice (some ⟨g, 0, none⟩) ps.length c0]) :: F) _) := ⟨HS2.out⟩
     refine wo_call rfl rfl HF rfl (enter_of Tryz.func111 (by kernel_rfl) rfl) (args := #[.agg #[.slice ((qs.getD k default).a0) ((qs.getD k default).d.fCells.length) ((qs.getD k default).c0), .slice ((qs.getD k default).a1) ((qs.getD k default).d.fWaits.length) ((qs.getD k default).c1), .bool ((qs.getD k default).d.fGone)], .int .i64 row, .string (cols.getD k ByteArray.empty)]) rfl (l3WriteH_any w0 _ (qs.getD k default) row (cols.getD k ByteArray.empty) _ hqw (hct k) HS2.out) rfl rfl ?_
     rintro _ w5 ⟨q, hqd, rfl, hs⟩; refine ⟨_, rfl, ?_⟩; replace HS2 := Bx.mk hs; clear hs HF; clear a; intro a HF
     replace HS2 : Bx (St w0 (HD.asr q :: sepA ((qs.eraseIdx k).map HD.asr) :: rowA HD.cells 3 94 (.slice (some ⟨g, 0, none⟩) ps.length c0) qs :: rowA encS 1 9 (.slice (some ⟨gc, 0, none⟩) cols.length cc) cols :: rowA encL 1 4 (.slice (some ⟨gb, 0, none⟩) wanted.length cb) wanted :: boxA b2 1 34 (.agg #[.slice none 0 0]) :: boxA b1 1 34 (.agg #[.slice (some ⟨g, 0, none⟩) ps.length c0]) :: F) _) := ⟨HS2.out⟩
     clear HS; have HS : Bx (St w0 (rowA HD.cells 3 94 (.slice (some ⟨g, 0, none⟩) ps.length c0) qs :: rowA encS 1 9 (.slice (some ⟨gc, 0, none⟩) cols.length cc) cols :: rowA encL 1 4 (.slice (some ⟨gb, 0, none⟩) wanted.length cb) wanted :: boxA b2 1 34 (.agg #[.slice none 0 0]) :: boxA b1 1 34 (.agg #[.slice (some ⟨g, 0, none⟩) ps.length c0]) :: F) _) := ⟨((HS2.out.erase 1).erase 0)⟩; refine ⟨HS.out, ?_⟩
     refine wh_y 11 rfl (by kernel_rfl) (by kernel_rfl) (by kernel_rfl) (fun _ _ _ h => h) rfl HF rfl rfl (fun _ HS => (yl_move rfl (HF.ev rfl))) HS.out ?_; clear HF a; intro a HF
     refine wh_y 12 rfl (by kernel_rfl) (by kernel_rfl) (by kernel_rfl) (fun _ _ _ h => h) rfl HF rfl rfl (fun _ HS => (yl_extract rfl (HF.ev rfl) rfl)) HS.out ?_; clear HF a; intro a HF
     refine wh_y 13 rfl (by kernel_rfl) (by kernel_rfl) (by kernel_rfl) (fun _ _ _ h => h) rfl HF rfl rfl (fun _ HS => (yl_extract rfl (HF.ev rfl) rfl)) HS.out ?_; clear HF a; intro a HF
     refine wh_one 14 (by kernel_rfl) ?_
     refine wo_alloc rfl rfl HF rfl rfl rfl (Z := [.slice none 0 0, .slice none 0 0, .bool false]) (by kernel_rfl) rfl HS2.out HS.out ?_; clear HF HS HS2 a; intro a w6 b3 HF HS2 HS; replace HS := Bx.mk HS; replace HS2 := Bx.mk HS2; refine ⟨HS.out, ?_⟩
     refine wh_one 15 (by kernel_rfl) ?_
     refine wo_storeBox rfl rfl rfl rfl (HF.ev rfl) (HF.ev rfl) HS2.out 0 rfl (cells_lit [.slice q.a0 q.d.fCells.length q.c0, .slice q.a1 q.d.fWaits.length q.c1, .bool q.d.fGone] rfl rfl) (by kernel_rfl) ?_
     clear HS HS2; intro w7 HS2; replace HS2 : Bx (St w0 (boxA b3 3 94 (.agg #[.slice q.a0 q.d.fCells.length q.c0, .slice q.a1 q.d.fWaits.length q.c1, .bool q.d.fGone]) :: HD.asr q :: sepA ((qs.eraseIdx k).map HD.asr) :: rowA HD.cells 3 94 (.slice (some ⟨g, 0, none⟩) ps.length c0) qs :: rowA encS 1 9 (.slice (some ⟨gc, 0, none⟩) cols.length cc) cols :: rowA encL 1 4 (.slice (some ⟨gb, 0, none⟩) wanted.length cb) wanted :: boxA b2 1 34 (.agg #[.slice none 0 0]) :: boxA b1 1 34 (.agg #[.slice (some ⟨g, 0, none⟩) ps.length c0]) :: F) _) := ⟨HS2⟩
     have HS : Bx (St w0 (rowA HD.cells 3 94 (.slice (some ⟨g, 0, none⟩) ps.length c0) qs :: rowA encS 1 9 (.slice (some ⟨gc, 0, none⟩) cols.length cc) cols :: rowA encL 1 4 (.slice (some ⟨gb, 0, none⟩) wanted.length cb) wanted :: boxA b2 1 34 (.agg #[.slice none 0 0]) :: boxA b1 1 34 (.agg #[.slice (some ⟨g, 0, none⟩) ps.length c0]) :: F) _) := ⟨(((HS2.out.erase 2).erase 1).erase 0)⟩; refine ⟨HS.out, ?_⟩
     refine wh_y 16 rfl (by kernel_rfl) (by kernel_rfl) (by kernel_rfl) (fun _ _ _ h => h) rfl HF rfl rfl (fun _ HS => (yl_assign rfl (HF.ev rfl))) HS.out ?_; clear HF a; intro a HF
     refine wh_done (by kernel_rfl) ?_
     replace HS := HS2; clear HS2
     refine ex_then ?_
     refine wp_seq ?_
     refine wp_sr ?_
     refine wl_mv HF rfl rfl rfl rfl rfl ?_; clear HF a; intro a HF
     refine wl_y rfl HF rfl rfl (yl_not rfl (HF.ev rfl)) ?_; clear HF a; intro a HF
     refine wl_ne ?_
     refine HF.cases 48 rfl (fun cc4 HF1 => ?_) (fun cc4 HF1 => ?_)
     ·clear HF; have HF := HF1; clear HF1
      refine wc_true HF rfl ?_
      refine wp_sr ?_
      refine wl_y rfl HF rfl rfl (yl_build HF rfl (ps := []) rfl (cs := #[.slice none 0 0]) (by kernel_rfl)) ?_; clear HF a; intro a HF
      refine wl_storeBox rfl HF rfl rfl (HF.ev rfl) (HF.ev rfl) HS.out 6 rfl (cells_lit [.slice none 0 0] rfl rfl) (by kernel_rfl) ?_; clear HS; intro w8 HS; replace HS := Bx.mk HS
      have HS : Bx (St w0 (boxA b3 3 94 (.agg #[.slice q.a0 q.d.fCells.length q.c0, .slice q.a1 q.d.fWaits.length q.c1, .bool q.d.fGone]) :: HD.asr q :: sepA ((qs.eraseIdx k).map HD.asr) :: rowA HD.cells 3 94 (.slice (some ⟨g, 0, none⟩) ps.length c0) qs :: rowA encS 1 9 (.slice (some ⟨gc, 0, none⟩) cols.length cc) cols :: rowA encL 1 4 (.slice (some ⟨gb, 0, none⟩) wanted.length cb) wanted :: boxA b2 1 34 (.agg #[.slice none 0 0]) :: boxA b1 1 34 (.agg #[.slice (some ⟨g, 0, none⟩) ps.length c0]) :: F) _) := HS
      refine wl_as HF rfl rfl rfl rfl rfl ?_; clear HF a; intro a HF
      refine wl_ne ?_
      refine wp_ret ?_
      refine ex_then_ret ?_
      refine ex_block_ret ?_
      refine ex_then_ret ?_
      refine ex_then_ret ?_
      refine ex_block_ret ?_
      refine ex_then_ret ?_
      refine bp_ret2 HF Tryz.results63 (HF.resBox rfl (HS.out.box 6 rfl) (by kernel_rfl)) (HF.res rfl) ?_
      replace HS : Bx (St w0 (rowA encS 1 9 (.slice (some ⟨gc, 0, none⟩) cols.length cc) cols :: rowA encL 1 4 (.slice (some ⟨gb, 0, none⟩) wanted.length cb) wanted :: boxA b3 3 94 (.agg #[.slice q.a0 q.d.fCells.length q.c0, .slice q.a1 q.d.fWaits.length q.c1, .bool q.d.fGone]) :: HD.asr q :: sepA ((qs.eraseIdx k).map HD.asr) :: rowA HD.cells 3 94 (.slice (some ⟨g, 0, none⟩) ps.length c0) qs :: boxA b2 1 34 (.agg #[.slice none 0 0]) :: boxA b1 1 34 (.agg #[.slice (some ⟨g, 0, none⟩) ps.length c0]) :: F) _) := ⟨((HS.out).pick 5 rfl).pick 5 rfl⟩
      have hgone := cc2; have hwant := cc3; have hcan := cc4
      rw [hgk] at hgone hcan
      exact .inl ⟨eachTo_fail (k := k) (by rw [dsOf_get]; exact stepPut_fail hgone (by simpa using hwant) (by simpa using hcan)) (by omega), rfl, ((((((HS.out.erase 7).erase 6).erase 5).erase 4).erase 3).erase 2)⟩
     ·clear HF; have HF := HF1; clear HF1
      refine wc_false HF rfl ?_
      refine wp_skip ?_
      refine ex_then ?_
      refine wp_region_lit ?_
      refine wl_y rfl HF rfl rfl (yl_fieldAddr (j := 0) rfl (HF.ev rfl) (by kernel_rfl)) ?_; clear HF a; intro a HF
      refine wl_y rfl HF rfl rfl (yl_load (v := .slice (some ⟨g, 0, none⟩) ps.length c0) rfl (HF.ev rfl) (((HS.out.box 7 rfl).cell 0).trans rfl) (by kernel_rfl)) ?_; clear HF a; intro a HF
      refine wl_mv HF rfl rfl rfl rfl rfl ?_; clear HF a; intro a HF
      refine wl_y rfl HF rfl rfl (yl_loadR (cs := [.slice q.a0 q.d.fCells.length q.c0, .slice q.a1 q.d.fWaits.length q.c1, .bool q.d.fGone]) rfl (HF.ev rfl) ((HS.out.box 0 rfl).sub 0 3) (by kernel_rfl)) ?_; clear HF a; intro a HF
      refine wl_y rfl HF rfl rfl (yl_indexAddr (e := 94) (i := k) (size := 3) rfl (HF.ev rfl) (HF.ev rfl) (by kernel_rfl) rfl (by omega)) ?_; clear HF a; intro a HF
      refine wl_storeEn HD.cells_len rfl rfl rfl (HF.ev rfl) (HF.ev rfl) (by kernel_rfl) HS.out 3 rfl (by omega) (z := q) rfl (by first | rfl | simp [Value.oneCell']) ?_; clear HS; intro w9 HS; replace HS := Bx.mk HS
      refine wpList_nil ?_
      refine ex_block ?_
      refine ex_then ?_
      refine wp_region_lit ?_
      refine wl_mv HF rfl rfl rfl rfl rfl ?_; clear HF a; intro a HF
      refine wl_y rfl HF rfl rfl (yl_addI rfl (HF.ev rfl) (HF.ev rfl) (i64w (by omega))) ?_; clear HF a; intro a HF
      refine wl_as HF rfl rfl rfl rfl rfl ?_; clear HF a; intro a HF
      refine wl_ne ?_
      replace HS := Bx.mk (St.hdIn (((HS.out).pick 2 rfl).pick 2 rfl) (by omega))
      have hcan : (ps.getD k default).d.can row (cols.getD k ByteArray.empty) = true := by rw [hgk] at cc4; simpa using cc4
      have hgone : (ps.getD k default).d.fGone = false := by rw [hgk] at cc2; exact cc2
      have hwant : wanted.getD k false = true := by simpa using cc3
      rw [hgk, hcan, if_pos rfl] at hqd
      have hnext : eachTo (stepPut row (fun i => cols.getD i ByteArray.empty) (fun i => wanted.getD i false)) (dsOf ps) (k + 1) = some (dsOf ((qs.set k q).take (k + 1))) := by rw [take_set_succ _ _ _ (by omega), dsOf_append]; refine eachTo_next (x := q.d) hq ?_; rw [dsOf_get, stepPut_put hgone hwant hcan, ← hqd]
      replace HS := Bx.mk (((((((((HS.out).pick 6 rfl).pick 6 rfl).pick 6 rfl).pick 6 rfl).pick 4 rfl).pick 6 rfl).erase 6))
      exact ⟨k + 1, ⟨qs.set k q, ⟨by omega, by rw [List.length_set]; exact hql, hnext, by rw [drop_set_succ, ← List.drop_drop, ← List.drop_drop, hqd0]⟩, HF.less _ ⟨rfl, rfl, rfl, rfl, rfl, rfl, rfl, trivial⟩, HS.out⟩, (by omega)⟩
    ·skip
     refine wo_alloc rfl rfl HF rfl rfl rfl (Z := [.slice none 0 0, .slice none 0 0, .bool false]) (by kernel_rfl) rfl HS2.out HS.out ?_; clear HF HS HS2 a; intro a w10 b4 HF HS2 HS; replace HS := Bx.mk HS; replace HS2 := Bx.mk HS2; refine ⟨HS.out, ?_⟩
     refine wh_one 10 (by kernel_rfl) ?_
     replace HS2 := Bx.mk ((HS2.out.pick 2 rfl).hdOut k (by omega))
     replace HS2 : Bx (St w0 (HD.asr (qs.getD k default) :: sepA ((qs.eraseIdx k).map HD.asr) :: boxA b4 3 94 (.agg #[.slice none 0 0, .slice none 0 0, .bool false]) :: rowA HD.cells 3 94 (.slice (some ⟨g, 0, none⟩) ps.length c0) qs :: rowA encS 1 9 (.slice (some ⟨gc, 0, none⟩) cols.length cc) cols :: rowA encL 1 4 (.slice (some ⟨gb, 0, none⟩) wanted.length cb) wanted :: boxA b2 1 34 (.agg #[.slice none 0 0]) :: boxA b1 1 34 (.agg #[.slice (some ⟨g, 0, none⟩) ps.length c0]) :: F) _) := ⟨HS2.out⟩
     refine wo_call rfl rfl HF rfl (enter_of Tryz.func111 (by kernel_rfl) rfl) (args := #[.agg #[.slice ((qs.getD k default).a0) ((qs.getD k default).d.fCells.length) ((qs.getD k default).c0), .slice ((qs.getD k default).a1) ((qs.getD k default).d.fWaits.length) ((qs.getD k default).c1), .bool ((qs.getD k default).d.fGone)], .int .i64 row, .string (cols.getD k ByteArray.empty)]) rfl (l3WriteH_any w0 _ (qs.getD k default) row (cols.getD k ByteArray.empty) _ hqw (hct k) HS2.out) rfl rfl ?_
     rintro _ w11 ⟨q, hqd, rfl, hs⟩; refine ⟨_, rfl, ?_⟩; replace HS2 := Bx.mk hs; clear hs HF; clear a; intro a HF
     replace HS2 : Bx (St w0 (HD.asr q :: sepA ((qs.eraseIdx k).map HD.asr) :: boxA b4 3 94 (.agg #[.slice none 0 0, .slice none 0 0, .bool false]) :: rowA HD.cells 3 94 (.slice (some ⟨g, 0, none⟩) ps.length c0) qs :: rowA encS 1 9 (.slice (some ⟨gc, 0, none⟩) cols.length cc) cols :: rowA encL 1 4 (.slice (some ⟨gb, 0, none⟩) wanted.length cb) wanted :: boxA b2 1 34 (.agg #[.slice none 0 0]) :: boxA b1 1 34 (.agg #[.slice (some ⟨g, 0, none⟩) ps.length c0]) :: F) _) := ⟨HS2.out⟩
     clear HS; have HS : Bx (St w0 (rowA HD.cells 3 94 (.slice (some ⟨g, 0, none⟩) ps.length c0) qs :: rowA encS 1 9 (.slice (some ⟨gc, 0, none⟩) cols.length cc) cols :: rowA encL 1 4 (.slice (some ⟨gb, 0, none⟩) wanted.length cb) wanted :: boxA b2 1 34 (.agg #[.slice none 0 0]) :: boxA b1 1 34 (.agg #[.slice (some ⟨g, 0, none⟩) ps.length c0]) :: F) _) := ⟨(((HS2.out.erase 2).erase 1).erase 0)⟩; refine ⟨HS.out, ?_⟩
     refine wh_y 11 rfl (by kernel_rfl) (by kernel_rfl) (by kernel_rfl) (fun _ _ _ h => h) rfl HF rfl rfl (fun _ HS => (yl_move rfl (HF.ev rfl))) HS.out ?_; clear HF a; intro a HF
     refine wh_y 12 rfl (by kernel_rfl) (by kernel_rfl) (by kernel_rfl) (fun _ _ _ h => h) rfl HF rfl rfl (fun _ HS => (yl_extract rfl (HF.ev rfl) rfl)) HS.out ?_; clear HF a; intro a HF
     refine wh_y 13 rfl (by kernel_rfl) (by kernel_rfl) (by kernel_rfl) (fun _ _ _ h => h) rfl HF rfl rfl (fun _ HS => (yl_extract rfl (HF.ev rfl) rfl)) HS.out ?_; clear HF a; intro a HF
     refine wh_one 15 (by kernel_rfl) ?_
     refine wo_storeBox rfl rfl rfl rfl (HF.ev rfl) (HF.ev rfl) HS2.out 2 rfl (cells_lit [.slice q.a0 q.d.fCells.length q.c0, .slice q.a1 q.d.fWaits.length q.c1, .bool q.d.fGone] rfl rfl) (by kernel_rfl) ?_
     clear HS HS2; intro w12 HS2; replace HS2 : Bx (St w0 (HD.asr q :: sepA ((qs.eraseIdx k).map HD.asr) :: boxA b4 3 94 (.agg #[.slice q.a0 q.d.fCells.length q.c0, .slice q.a1 q.d.fWaits.length q.c1, .bool q.d.fGone]) :: rowA HD.cells 3 94 (.slice (some ⟨g, 0, none⟩) ps.length c0) qs :: rowA encS 1 9 (.slice (some ⟨gc, 0, none⟩) cols.length cc) cols :: rowA encL 1 4 (.slice (some ⟨gb, 0, none⟩) wanted.length cb) wanted :: boxA b2 1 34 (.agg #[.slice none 0 0]) :: boxA b1 1 34 (.agg #[.slice (some ⟨g, 0, none⟩) ps.length c0]) :: F) _) := ⟨HS2⟩
     have HS : Bx (St w0 (rowA HD.cells 3 94 (.slice (some ⟨g, 0, none⟩) ps.length c0) qs :: rowA encS 1 9 (.slice (some ⟨gc, 0, none⟩) cols.length cc) cols :: rowA encL 1 4 (.slice (some ⟨gb, 0, none⟩) wanted.length cb) wanted :: boxA b2 1 34 (.agg #[.slice none 0 0]) :: boxA b1 1 34 (.agg #[.slice (some ⟨g, 0, none⟩) ps.length c0]) :: F) _) := ⟨(((HS2.out.erase 2).erase 1).erase 0)⟩; refine ⟨HS.out, ?_⟩
     refine wh_y 16 rfl (by kernel_rfl) (by kernel_rfl) (by kernel_rfl) (fun _ _ _ h => h) rfl HF rfl rfl (fun _ HS => (yl_assign rfl (HF.ev rfl))) HS.out ?_; clear HF a; intro a HF
     refine wh_done (by kernel_rfl) ?_
     replace HS := HS2; clear HS2
     refine ex_then ?_
     refine wp_seq ?_
     refine wp_sr ?_
     refine wl_mv HF rfl rfl rfl rfl rfl ?_; clear HF a; intro a HF
     refine wl_y rfl HF rfl rfl (yl_not rfl (HF.ev rfl)) ?_; clear HF a; intro a HF
     refine wl_ne ?_
     refine HF.cases 48 rfl (fun cc5 HF1 => ?_) (fun cc5 HF1 => ?_)
     ·clear HF; have HF := HF1; clear HF1
      refine wc_true HF rfl ?_
      refine wp_sr ?_
      refine wl_y rfl HF rfl rfl (yl_build HF rfl (ps := []) rfl (cs := #[.slice none 0 0]) (by kernel_rfl)) ?_; clear HF a; intro a HF
      refine wl_storeBox rfl HF rfl rfl (HF.ev rfl) (HF.ev rfl) HS.out 6 rfl (cells_lit [.slice none 0 0] rfl rfl) (by kernel_rfl) ?_; clear HS; intro w13 HS; replace HS := Bx.mk HS
      have HS : Bx (St w0 (HD.asr q :: sepA ((qs.eraseIdx k).map HD.asr) :: boxA b4 3 94 (.agg #[.slice q.a0 q.d.fCells.length q.c0, .slice q.a1 q.d.fWaits.length q.c1, .bool q.d.fGone]) :: rowA HD.cells 3 94 (.slice (some ⟨g, 0, none⟩) ps.length c0) qs :: rowA encS 1 9 (.slice (some ⟨gc, 0, none⟩) cols.length cc) cols :: rowA encL 1 4 (.slice (some ⟨gb, 0, none⟩) wanted.length cb) wanted :: boxA b2 1 34 (.agg #[.slice none 0 0]) :: boxA b1 1 34 (.agg #[.slice (some ⟨g, 0, none⟩) ps.length c0]) :: F) _) := HS
      refine wl_as HF rfl rfl rfl rfl rfl ?_; clear HF a; intro a HF
      refine wl_ne ?_
      refine wp_ret ?_
      refine ex_then_ret ?_
      refine ex_block_ret ?_
      refine ex_then_ret ?_
      refine ex_then_ret ?_
      refine ex_block_ret ?_
      refine ex_then_ret ?_
      refine bp_ret2 HF Tryz.results63 (HF.resBox rfl (HS.out.box 6 rfl) (by kernel_rfl)) (HF.res rfl) ?_
      replace HS : Bx (St w0 (rowA encS 1 9 (.slice (some ⟨gc, 0, none⟩) cols.length cc) cols :: rowA encL 1 4 (.slice (some ⟨gb, 0, none⟩) wanted.length cb) wanted :: HD.asr q :: sepA ((qs.eraseIdx k).map HD.asr) :: boxA b4 3 94 (.agg #[.slice q.a0 q.d.fCells.length q.c0, .slice q.a1 q.d.fWaits.length q.c1, .bool q.d.fGone]) :: rowA HD.cells 3 94 (.slice (some ⟨g, 0, none⟩) ps.length c0) qs :: boxA b2 1 34 (.agg #[.slice none 0 0]) :: boxA b1 1 34 (.agg #[.slice (some ⟨g, 0, none⟩) ps.length c0]) :: F) _) := ⟨((HS.out).pick 5 rfl).pick 5 rfl⟩
      have hgone := cc2; have hwant := cc3; have hcan := cc5
      rw [hgk] at hgone hcan
      exact .inl ⟨eachTo_fail (k := k) (by rw [dsOf_get]; exact stepPut_fail hgone (by simpa using hwant) (by simpa using hcan)) (by omega), rfl, ((((((HS.out.erase 7).erase 6).erase 5).erase 4).erase 3).erase 2)⟩
     ·clear HF; have HF := HF1; clear HF1
      refine wc_false HF rfl ?_
      refine wp_skip ?_
      refine ex_then ?_
      refine wp_region_lit ?_
      refine wl_y rfl HF rfl rfl (yl_fieldAddr (j := 0) rfl (HF.ev rfl) (by kernel_rfl)) ?_; clear HF a; intro a HF
      refine wl_y rfl HF rfl rfl (yl_load (v := .slice (some ⟨g, 0, none⟩) ps.length c0) rfl (HF.ev rfl) (((HS.out.box 7 rfl).cell 0).trans rfl) (by kernel_rfl)) ?_; clear HF a; intro a HF
      refine wl_mv HF rfl rfl rfl rfl rfl ?_; clear HF a; intro a HF
      refine wl_y rfl HF rfl rfl (yl_loadR (cs := [.slice q.a0 q.d.fCells.length q.c0, .slice q.a1 q.d.fWaits.length q.c1, .bool q.d.fGone]) rfl (HF.ev rfl) ((HS.out.box 2 rfl).sub 0 3) (by kernel_rfl)) ?_; clear HF a; intro a HF
      refine wl_y rfl HF rfl rfl (yl_indexAddr (e := 94) (i := k) (size := 3) rfl (HF.ev rfl) (HF.ev rfl) (by kernel_rfl) rfl (by omega)) ?_; clear HF a; intro a HF
      refine wl_storeEn HD.cells_len rfl rfl rfl (HF.ev rfl) (HF.ev rfl) (by kernel_rfl) HS.out 3 rfl (by omega) (z := q) rfl (by first | rfl | simp [Value.oneCell']) ?_; clear HS; intro w14 HS; replace HS := Bx.mk HS
      refine wpList_nil ?_
      refine ex_block ?_
      refine ex_then ?_
      refine wp_region_lit ?_
      refine wl_mv HF rfl rfl rfl rfl rfl ?_; clear HF a; intro a HF
      refine wl_y rfl HF rfl rfl (yl_addI rfl (HF.ev rfl) (HF.ev rfl) (i64w (by omega))) ?_; clear HF a; intro a HF
      refine wl_as HF rfl rfl rfl rfl rfl ?_; clear HF a; intro a HF
      refine wl_ne ?_
      replace HS := Bx.mk (St.hdIn (((HS.out).pick 1 rfl).pick 1 rfl) (by omega))
      have hcan : (ps.getD k default).d.can row (cols.getD k ByteArray.empty) = true := by rw [hgk] at cc5; simpa using cc5
      have hgone : (ps.getD k default).d.fGone = false := by rw [hgk] at cc2; exact cc2
      have hwant : wanted.getD k false = true := by simpa using cc3
      rw [hgk, hcan, if_pos rfl] at hqd
      have hnext : eachTo (stepPut row (fun i => cols.getD i ByteArray.empty) (fun i => wanted.getD i false)) (dsOf ps) (k + 1) = some (dsOf ((qs.set k q).take (k + 1))) := by rw [take_set_succ _ _ _ (by omega), dsOf_append]; refine eachTo_next (x := q.d) hq ?_; rw [dsOf_get, stepPut_put hgone hwant hcan, ← hqd]
      replace HS := Bx.mk (((((((((HS.out).pick 6 rfl).pick 6 rfl).pick 6 rfl).pick 6 rfl).pick 4 rfl).pick 6 rfl).erase 6))
      exact ⟨k + 1, ⟨qs.set k q, ⟨by omega, by rw [List.length_set]; exact hql, hnext, by rw [drop_set_succ, ← List.drop_drop, ← List.drop_drop, hqd0]⟩, HF.less _ ⟨rfl, rfl, rfl, rfl, rfl, rfl, rfl, trivial⟩, HS.out⟩, (by omega)⟩
 ·clear HF; have HF := HF1; clear HF1
  have dcc1 := of_decide_eq_false cc1
  refine wc_false HF rfl ?_
  refine wp_exit ?_
  refine ex_then_exit ?_
  refine ex_then_exit ?_
  refine ex_block_hit ?_
  refine ex_then ?_
  refine wp_sr ?_
  refine wl_y rfl HF rfl rfl (yl_loadR (cs := [.slice (some ⟨g, 0, none⟩) ps.length c0]) rfl (HF.ev rfl) ((HS.out.box 5 rfl).sub 0 1) (by kernel_rfl)) ?_; clear HF a; intro a HF
  refine wl_storeBox rfl HF rfl rfl (HF.ev rfl) (HF.ev rfl) HS.out 4 rfl (cells_lit [.slice (some ⟨g, 0, none⟩) ps.length c0] rfl rfl) (by kernel_rfl) ?_; clear HS; intro w15 HS; replace HS := Bx.mk HS
  have HS : Bx (St w0 (rowA HD.cells 3 94 (.slice (some ⟨g, 0, none⟩) ps.length c0) qs :: sepA (qs.map HD.asr) :: rowA encS 1 9 (.slice (some ⟨gc, 0, none⟩) cols.length cc) cols :: rowA encL 1 4 (.slice (some ⟨gb, 0, none⟩) wanted.length cb) wanted :: boxA b2 1 34 (.agg #[.slice (some ⟨g, 0, none⟩) ps.length c0]) :: boxA b1 1 34 (.agg #[.slice (some ⟨g, 0, none⟩) ps.length c0]) :: F) _) := HS
  refine wl_as HF rfl rfl rfl rfl rfl ?_; clear HF a; intro a HF
  refine wl_ne ?_
  refine wp_ret ?_
  refine bp_ret2 HF Tryz.results63 (HF.resBox rfl (HS.out.box 4 rfl) (by kernel_rfl)) (HF.res rfl) ?_
  replace HS : Bx (St w0 (rowA HD.cells 3 94 (.slice (some ⟨g, 0, none⟩) ps.length c0) qs :: sepA (qs.map HD.asr) :: rowA encS 1 9 (.slice (some ⟨gc, 0, none⟩) cols.length cc) cols :: rowA encL 1 4 (.slice (some ⟨gb, 0, none⟩) wanted.length cb) wanted :: boxA b2 1 34 (.agg #[.slice (some ⟨g, 0, none⟩) ps.length c0]) :: boxA b1 1 34 (.agg #[.slice (some ⟨g, 0, none⟩) ps.length c0]) :: F) _) := ⟨((((HS.out).pick 3 rfl).pick 3 rfl).pick 3 rfl).pick 3 rfl⟩
  obtain rfl : k = ps.length := by omega
  rw [← hql, List.take_length] at hq
  rw [hql] at hq
  exact .inr ⟨qs, hq, rfl, ((HS.out.erase 5).erase 4)⟩

end Go.Proofs.YtoaopmkbfifhaaaGreatDoor

/- Reading a set of disks, by the reference. -/
namespace Go.Proofs.YtoaopmkbfifhaaaGreatDoor
set_option linter.unusedVariables false
set_option linter.unusedSimpArgs false
set_option maxHeartbeats 1000000
set_option maxRecDepth 100000
open Go.RowKit

def PtrD.fits (p : PtrD) (t : ByteArray) : Bool := (bif p.ok then (bif !p.hole then (bif (p.fSize == (t.size : Int)) then (p.fSum == (sumOf t)) else false) else false) else false)

end Go.Proofs.YtoaopmkbfifhaaaGreatDoor

/- Healing a set of disks, by the reference. -/
namespace Go.Proofs.YtoaopmkbfifhaaaGreatDoor
set_option linter.unusedVariables false
set_option linter.unusedSimpArgs false
set_option maxHeartbeats 1000000
set_option maxRecDepth 100000
open Go.RowKit

theorem ok_parts {d : DiskD} (h : d.ok = true) : (∀ k, k < 64 → cellB d k = true) ∧ (∀ k, k < d.fWaits.length → waitB d k = true) := by
  have h2 := ok_waits h
  unfold DiskD.ok at h
  simp only [Bool.and_eq_true, decide_eq_true_eq] at h
  exact ⟨fun k hk => allB_at h.2.2.2.1 (by omega), fun k hk => allB_at h.2.2.2.2 hk⟩
theorem okR_three {ps : List HD} (h : okR (dsOf ps) = true) : ps.length = 3 ∧ ∀ k, k < ps.length → (ps.getD k default).d.ok = true := by
  rw [okR_ps] at h
  simp only [Bool.and_eq_true, decide_eq_true_eq] at h
  exact ⟨h.1, fun k hk => allB_at (p := fun k => (ps.getD k default).d.ok) h.2 hk⟩
end Go.Proofs.YtoaopmkbfifhaaaGreatDoor

/- A round over the disks, by a function value. -/
namespace Go.Proofs.YtoaopmkbfifhaaaGreatDoor
set_option linter.unusedVariables false
set_option linter.unusedSimpArgs false
set_option maxHeartbeats 1000000
set_option maxRecDepth 100000
open Go.RowKit

theorem each_any (w0 w : World) (a0 : Option Addr) (c0 : Nat) (ps : List HD) (f : FuncId) (caps : Array Value) (step : Nat → DiskD → Option DiskD) (C : Nat → List Asr) (F : List Asr) (hl : ps.length ≤ 1048576) (HE : ∀ (args : Array Value) (w : World), (callFunc f args).run Tryz.prog w = .ok (.enter f args) w) (hR : Rd HD.cells 3 w0 a0 ps.length ps) (hf : ∀ k, k < ps.length → ∀ (w : World) (X : List Asr), (∃ xs, eachTo step (dsOf ps) k = some xs) → St w0 (C k ++ X) w → Calls Tryz.prog f (#[] ++ #[.int .i64 (k : Int), .agg #[.slice ((ps.getD k default).a0) ((ps.getD k default).d.fCells.length) ((ps.getD k default).c0), .slice ((ps.getD k default).a1) ((ps.getD k default).d.fWaits.length) ((ps.getD k default).c1), .bool ((ps.getD k default).d.fGone)]] ++ caps) w fun e w' => (step k (ps.getD k default).d = none ∧ ∃ q : HD, e = .returned (.tuple #[.agg #[.slice q.a0 q.d.fCells.length q.c0, .slice q.a1 q.d.fWaits.length q.c1, .bool q.d.fGone], .bool false]) ∧ St w0 X w') ∨ (∃ q : HD, step k (ps.getD k default).d = some q.d ∧ e = .returned (.tuple #[.agg #[.slice q.a0 q.d.fCells.length q.c0, .slice q.a1 q.d.fWaits.length q.c1, .bool q.d.fGone], .bool true]) ∧ St w0 (q.asr :: (C (k + 1) ++ X)) w')) (hS : St w0 (C 0 ++ F) w) : Calls Tryz.prog 75 #[.agg #[.slice a0 ps.length c0], .func (.func f) #[] caps] w fun e w' => (eachTo step (dsOf ps) ps.length = none ∧ e = .returned (.tuple #[.agg #[.slice none 0 0], .bool false]) ∧ St w0 F w') ∨ (∃ ao cp qs, eachTo step (dsOf ps) ps.length = some (dsOf qs) ∧ e = .returned (.tuple #[.agg #[.slice ao qs.length cp], .bool true]) ∧ St w0 (rowA HD.cells 3 94 (.slice ao qs.length cp) qs :: sepA (qs.map HD.asr) :: (C ps.length ++ F)) w') := by
 have HR := Bx.mk hR; have HF0 := Bx.mk hf; clear hR hf
 have HS := Bx.mk hS; clear hS
 refine wc_enter Tryz.func75 rfl Tryz.ntmps75 [(0, .agg #[.slice a0 ps.length c0]), (1, .func (.func f) #[] caps)] ⟨rfl, rfl, trivial⟩ rfl ?_; intro a HF
 refine wp_sr ?_
 refine wl_box rfl HF rfl (HF.ev rfl) (Z := [.slice a0 ps.length c0]) rfl rfl rfl rfl HS.out ?_; clear HF HS a; intro a w1 b1 HF HS; replace HS := Bx.mk HS
 refine wl_alloc rfl HF rfl rfl rfl (Z := [.slice none 0 0]) (by kernel_rfl) rfl HS.out ?_; clear HF HS a; intro a w2 b2 HF HS; replace HS := Bx.mk HS
 refine wl_as HF rfl rfl rfl rfl rfl ?_; clear HF a; intro a HF
 refine wl_ne ?_
 refine wp_sr ?_
 refine wl_alloc rfl HF rfl rfl rfl (Z := [.slice none 0 0]) (by kernel_rfl) rfl HS.out ?_; clear HF HS a; intro a w3 b3 HF HS; replace HS := Bx.mk HS
 refine wl_ne ?_
 refine wp_seq ?_
 refine wp_sr ?_
 refine wl_y rfl HF rfl rfl (yl_fieldAddr (j := 0) rfl (HF.ev rfl) (by kernel_rfl)) ?_; clear HF a; intro a HF
 refine wl_y rfl HF rfl rfl (yl_load (v := .slice a0 ps.length c0) rfl (HF.ev rfl) (((HS.out.box 2 rfl).cell 0).trans rfl) (by kernel_rfl)) ?_; clear HF a; intro a HF
 refine wl_y rfl HF rfl rfl (yl_lenL (e := 94) (size := 3) rfl (HF.ev rfl) (by kernel_rfl)) ?_; clear HF a; intro a HF
 refine wl_mv HF rfl rfl rfl rfl rfl ?_; clear HF a; intro a HF
 refine wl_ne ?_
 refine wp_block ?_
 replace HS := Bx.mk ((HS.out.hdNil).nilRow HD.cells 3 94 none)
 refine wc_loop (ι := Nat) (fun k a w => ∃ (ao : Option Addr) (cp : Nat) (qs : List HD), (k ≤ ps.length ∧ qs.length = k ∧ eachTo step (dsOf ps) k = some (dsOf qs)) ∧ Fr 37 a [(1, .func (.func f) #[] caps), (2, .pointer (some ⟨b1, 0, none⟩)), (4, .pointer (some ⟨b2, 0, none⟩)), (5, .bool false), (6, .pointer (some ⟨b3, 0, none⟩)), (12, .slice a0 ps.length c0), (13, .int .i64 (ps.length : Int)), (14, .int .i64 (k : Int))] ∧ St w0 (rowA HD.cells 3 94 (.slice ao qs.length cp) qs :: sepA (qs.map HD.asr) :: boxA b3 1 34 (.agg #[.slice ao qs.length cp]) :: boxA b2 1 34 (.agg #[.slice none 0 0]) :: boxA b1 1 34 (.agg #[.slice a0 ps.length c0]) :: (C k ++ F)) w) (fun k => ps.length - k) 0 ⟨_, _, [], ⟨Nat.zero_le _, rfl, rfl⟩, HF.less _ ⟨rfl, rfl, rfl, rfl, rfl, rfl, rfl, rfl, trivial⟩, HS.out⟩ ?_
 clear HF HS; clear a
 rintro k a w4 ⟨ao, cp, qs, ⟨hk, hql, hq⟩, HF, HS⟩
 replace HS := Bx.mk HS
 refine wp_sr ?_
 refine wl_y rfl HF rfl rfl (yl_lssI rfl (HF.ev rfl) (HF.ev rfl)) ?_; clear HF a; intro a HF
 refine wl_ne ?_
 refine wp_seq ?_
 refine HF.cases 15 rfl (fun cc1 HF1 => ?_) (fun cc1 HF1 => ?_)
 ·clear HF; have HF := HF1; clear HF1
  have dcc1 := of_decide_eq_true cc1
  refine wc_true HF rfl ?_
  refine wp_skip ?_
  refine ex_then ?_
  refine wp_seq ?_
  refine wp_block ?_
  refine wp_seq ?_
  obtain ⟨g0, o0, r0⟩ := HR.out.opn; have R0 := Bx.mk r0; clear r0
  refine wp_region_lit ?_
  refine wl_mv HF rfl rfl rfl rfl rfl ?_; clear HF a; intro a HF
  refine wl_y rfl HF rfl rfl (yl_indexAddrR (e := 94) (i := k) (size := 3) rfl (HF.ev rfl) (HF.ev rfl) (by kernel_rfl) rfl (by omega) (R0.out.ao k (by omega))) ?_; clear HF a; intro a HF
  refine wl_y rfl HF rfl rfl (yl_loadR (cs := [.slice ((ps.getD k default).a0) ((ps.getD k default).d.fCells.length) ((ps.getD k default).c0), .slice ((ps.getD k default).a1) ((ps.getD k default).d.fWaits.length) ((ps.getD k default).c1), .bool ((ps.getD k default).d.fGone)]) rfl (HF.ev rfl) (R0.out.elem HS.out (get_getD (xs := ps) (j := k) (d := default) (by omega))) (by kernel_rfl)) ?_; clear HF a; intro a HF
  refine wl_alloc rfl HF rfl rfl rfl (Z := [.slice none 0 0, .slice none 0 0, .bool false]) (by kernel_rfl) rfl HS.out ?_; clear HF HS a; intro a w5 b4 HF HS; replace HS := Bx.mk HS
  refine wl_as HF rfl rfl rfl rfl rfl ?_; clear HF a; intro a HF
  refine wl_storeBox rfl HF rfl rfl (HF.ev rfl) (HF.ev rfl) HS.out 0 rfl (cells_lit [.slice ((ps.getD k default).a0) ((ps.getD k default).d.fCells.length) ((ps.getD k default).c0), .slice ((ps.getD k default).a1) ((ps.getD k default).d.fWaits.length) ((ps.getD k default).c1), .bool ((ps.getD k default).d.fGone)] rfl rfl) (by kernel_rfl) ?_; clear HS; intro w6 HS; replace HS := Bx.mk HS
  have HS : Bx (St w0 (boxA b4 3 94 (.agg #[.slice ((ps.getD k default).a0) ((ps.getD k default).d.fCells.length) ((ps.getD k default).c0), .slice ((ps.getD k default).a1) ((ps.getD k default).d.fWaits.length) ((ps.getD k default).c1), .bool ((ps.getD k default).d.fGone)]) :: rowA HD.cells 3 94 (.slice ao qs.length cp) qs :: sepA (qs.map HD.asr) :: boxA b3 1 34 (.agg #[.slice ao qs.length cp]) :: boxA b2 1 34 (.agg #[.slice none 0 0]) :: boxA b1 1 34 (.agg #[.slice a0 ps.length c0]) :: (C k ++ F)) _) := HS
  refine wl_ne ?_
  refine wp_sr ?_
  refine wl_mv HF rfl rfl rfl rfl rfl ?_; clear HF a; intro a HF
  refine wl_mv HF rfl rfl rfl rfl rfl ?_; clear HF a; intro a HF
  refine wl_y rfl HF rfl rfl (yl_loadR (cs := [.slice ((ps.getD k default).a0) ((ps.getD k default).d.fCells.length) ((ps.getD k default).c0), .slice ((ps.getD k default).a1) ((ps.getD k default).d.fWaits.length) ((ps.getD k default).c1), .bool ((ps.getD k default).d.fGone)]) rfl (HF.ev rfl) ((HS.out.box 0 rfl).sub 0 3) (by kernel_rfl)) ?_; clear HF a; intro a HF
  refine wl_callv rfl HF rfl (HF.ev rfl) HE (args := #[.int .i64 (k : Int), .agg #[.slice ((ps.getD k default).a0) ((ps.getD k default).d.fCells.length) ((ps.getD k default).c0), .slice ((ps.getD k default).a1) ((ps.getD k default).d.fWaits.length) ((ps.getD k default).c1), .bool ((ps.getD k default).d.fGone)]]) rfl (HF0.out k (by omega) _ ([boxA b4 3 94 (.agg #[.slice ((ps.getD k default).a0) ((ps.getD k default).d.fCells.length) ((ps.getD k default).c0), .slice ((ps.getD k default).a1) ((ps.getD k default).d.fWaits.length) ((ps.getD k default).c1), .bool ((ps.getD k default).d.fGone)]), rowA HD.cells 3 94 (.slice ao qs.length cp) qs, sepA (qs.map HD.asr), boxA b3 1 34 (.agg #[.slice ao qs.length cp]), boxA b2 1 34 (.agg #[.slice none 0 0]), boxA b1 1 34 (.agg #[.slice a0 ps.length c0])] ++ F) ⟨_, hq⟩ (St.midl (L := [boxA b4 3 94 (.agg #[.slice ((ps.getD k default).a0) ((ps.getD k default).d.fCells.length) ((ps.getD k default).c0), .slice ((ps.getD k default).a1) ((ps.getD k default).d.fWaits.length) ((ps.getD k default).c1), .bool ((ps.getD k default).d.fGone)]), rowA HD.cells 3 94 (.slice ao qs.length cp) qs, sepA (qs.map HD.asr), boxA b3 1 34 (.agg #[.slice ao qs.length cp]), boxA b2 1 34 (.agg #[.slice none 0 0]), boxA b1 1 34 (.agg #[.slice a0 ps.length c0])]) HS.out)) rfl rfl ?_
  rintro _ w7 (⟨hev, q, rfl, hs⟩ | ⟨q, hev, rfl, hs⟩)
  ·skip
   refine ⟨_, rfl, ?_⟩; replace HS := Bx.mk hs; clear hs HF; clear a; intro a HF
   replace HS : Bx (St w0 (boxA b4 3 94 (.agg #[.slice ((ps.getD k default).a0) ((ps.getD k default).d.fCells.length) ((ps.getD k default).c0), .slice ((ps.getD k default).a1) ((ps.getD k default).d.fWaits.length) ((ps.getD k default).c1), .bool ((ps.getD k default).d.fGone)]) :: rowA HD.cells 3 94 (.slice ao qs.length cp) qs :: sepA (qs.map HD.asr) :: boxA b3 1 34 (.agg #[.slice ao qs.length cp]) :: boxA b2 1 34 (.agg #[.slice none 0 0]) :: boxA b1 1 34 (.agg #[.slice a0 ps.length c0]) :: F) _) := ⟨HS.out⟩
   refine wl_mv HF rfl rfl rfl rfl rfl ?_; clear HF a; intro a HF
   refine wl_y rfl HF rfl rfl (yl_extract rfl (HF.ev rfl) rfl) ?_; clear HF a; intro a HF
   refine wl_y rfl HF rfl rfl (yl_extract rfl (HF.ev rfl) rfl) ?_; clear HF a; intro a HF
   refine wl_alloc rfl HF rfl rfl rfl (Z := [.slice none 0 0, .slice none 0 0, .bool false]) (by kernel_rfl) rfl HS.out ?_; clear HF HS a; intro a w8 b5 HF HS; replace HS := Bx.mk HS
   refine wl_storeBox rfl HF rfl rfl (HF.ev rfl) (HF.ev rfl) HS.out 0 rfl (cells_lit [.slice q.a0 q.d.fCells.length q.c0, .slice q.a1 q.d.fWaits.length q.c1, .bool q.d.fGone] rfl rfl) (by kernel_rfl) ?_; clear HS; intro w9 HS; replace HS := Bx.mk HS
   have HS : Bx (St w0 (boxA b5 3 94 (.agg #[.slice q.a0 q.d.fCells.length q.c0, .slice q.a1 q.d.fWaits.length q.c1, .bool q.d.fGone]) :: boxA b4 3 94 (.agg #[.slice ((ps.getD k default).a0) ((ps.getD k default).d.fCells.length) ((ps.getD k default).c0), .slice ((ps.getD k default).a1) ((ps.getD k default).d.fWaits.length) ((ps.getD k default).c1), .bool ((ps.getD k default).d.fGone)]) :: rowA HD.cells 3 94 (.slice ao qs.length cp) qs :: sepA (qs.map HD.asr) :: boxA b3 1 34 (.agg #[.slice ao qs.length cp]) :: boxA b2 1 34 (.agg #[.slice none 0 0]) :: boxA b1 1 34 (.agg #[.slice a0 ps.length c0]) :: F) _) := HS
   refine wl_as HF rfl rfl rfl rfl rfl ?_; clear HF a; intro a HF
   refine wl_ne ?_
   refine wp_seq ?_
   refine wp_sr ?_
   refine wl_mv HF rfl rfl rfl rfl rfl ?_; clear HF a; intro a HF
   refine wl_y rfl HF rfl rfl (yl_not rfl (HF.ev rfl)) ?_; clear HF a; intro a HF
   refine wl_ne ?_
   refine wc_true HF rfl ?_
   refine wp_sr ?_
   refine wl_y rfl HF rfl rfl (yl_build HF rfl (ps := []) rfl (cs := #[.slice none 0 0]) (by kernel_rfl)) ?_; clear HF a; intro a HF
   refine wl_storeBox rfl HF rfl rfl (HF.ev rfl) (HF.ev rfl) HS.out 5 rfl (cells_lit [.slice none 0 0] rfl rfl) (by kernel_rfl) ?_; clear HS; intro w10 HS; replace HS := Bx.mk HS
   have HS : Bx (St w0 (boxA b5 3 94 (.agg #[.slice q.a0 q.d.fCells.length q.c0, .slice q.a1 q.d.fWaits.length q.c1, .bool q.d.fGone]) :: boxA b4 3 94 (.agg #[.slice ((ps.getD k default).a0) ((ps.getD k default).d.fCells.length) ((ps.getD k default).c0), .slice ((ps.getD k default).a1) ((ps.getD k default).d.fWaits.length) ((ps.getD k default).c1), .bool ((ps.getD k default).d.fGone)]) :: rowA HD.cells 3 94 (.slice ao qs.length cp) qs :: sepA (qs.map HD.asr) :: boxA b3 1 34 (.agg #[.slice ao qs.length cp]) :: boxA b2 1 34 (.agg #[.slice none 0 0]) :: boxA b1 1 34 (.agg #[.slice a0 ps.length c0]) :: F) _) := HS
   refine wl_as HF rfl rfl rfl rfl rfl ?_; clear HF a; intro a HF
   refine wl_ne ?_
   refine wp_ret ?_
   refine ex_then_ret ?_
   refine ex_block_ret ?_
   refine ex_then_ret ?_
   refine ex_then_ret ?_
   refine ex_block_ret ?_
   refine ex_then_ret ?_
   refine bp_ret2 HF Tryz.results75 (HF.resBox rfl (HS.out.box 5 rfl) (by kernel_rfl)) (HF.res rfl) ?_
   exact .inl ⟨eachTo_fail (k := k) (by rw [dsOf_get]; exact hev) (by omega), rfl, (((((((HS.out.erase 6).erase 5).erase 4).erase 3).erase 2).erase 1).erase 0)⟩
  ·skip
   refine ⟨_, rfl, ?_⟩; replace HS := Bx.mk (St.midl (L := C (k + 1)) (C := HD.asr q :: [boxA b4 3 94 (.agg #[.slice ((ps.getD k default).a0) ((ps.getD k default).d.fCells.length) ((ps.getD k default).c0), .slice ((ps.getD k default).a1) ((ps.getD k default).d.fWaits.length) ((ps.getD k default).c1), .bool ((ps.getD k default).d.fGone)]), rowA HD.cells 3 94 (.slice ao qs.length cp) qs, sepA (qs.map HD.asr), boxA b3 1 34 (.agg #[.slice ao qs.length cp]), boxA b2 1 34 (.agg #[.slice none 0 0]), boxA b1 1 34 (.agg #[.slice a0 ps.length c0])]) (St.midl (L := [HD.asr q]) hs)); clear hs HF; clear a; intro a HF
   replace HS : Bx (St w0 (HD.asr q :: boxA b4 3 94 (.agg #[.slice ((ps.getD k default).a0) ((ps.getD k default).d.fCells.length) ((ps.getD k default).c0), .slice ((ps.getD k default).a1) ((ps.getD k default).d.fWaits.length) ((ps.getD k default).c1), .bool ((ps.getD k default).d.fGone)]) :: rowA HD.cells 3 94 (.slice ao qs.length cp) qs :: sepA (qs.map HD.asr) :: boxA b3 1 34 (.agg #[.slice ao qs.length cp]) :: boxA b2 1 34 (.agg #[.slice none 0 0]) :: boxA b1 1 34 (.agg #[.slice a0 ps.length c0]) :: (C (k + 1) ++ F)) _) := ⟨HS.out⟩
   refine wl_mv HF rfl rfl rfl rfl rfl ?_; clear HF a; intro a HF
   refine wl_y rfl HF rfl rfl (yl_extract rfl (HF.ev rfl) rfl) ?_; clear HF a; intro a HF
   refine wl_y rfl HF rfl rfl (yl_extract rfl (HF.ev rfl) rfl) ?_; clear HF a; intro a HF
   refine wl_alloc rfl HF rfl rfl rfl (Z := [.slice none 0 0, .slice none 0 0, .bool false]) (by kernel_rfl) rfl HS.out ?_; clear HF HS a; intro a w11 b6 HF HS; replace HS := Bx.mk HS
   refine wl_storeBox rfl HF rfl rfl (HF.ev rfl) (HF.ev rfl) HS.out 0 rfl (cells_lit [.slice q.a0 q.d.fCells.length q.c0, .slice q.a1 q.d.fWaits.length q.c1, .bool q.d.fGone] rfl rfl) (by kernel_rfl) ?_; clear HS; intro w12 HS; replace HS := Bx.mk HS
   have HS : Bx (St w0 (boxA b6 3 94 (.agg #[.slice q.a0 q.d.fCells.length q.c0, .slice q.a1 q.d.fWaits.length q.c1, .bool q.d.fGone]) :: HD.asr q :: boxA b4 3 94 (.agg #[.slice ((ps.getD k default).a0) ((ps.getD k default).d.fCells.length) ((ps.getD k default).c0), .slice ((ps.getD k default).a1) ((ps.getD k default).d.fWaits.length) ((ps.getD k default).c1), .bool ((ps.getD k default).d.fGone)]) :: rowA HD.cells 3 94 (.slice ao qs.length cp) qs :: sepA (qs.map HD.asr) :: boxA b3 1 34 (.agg #[.slice ao qs.length cp]) :: boxA b2 1 34 (.agg #[.slice none 0 0]) :: boxA b1 1 34 (.agg #[.slice a0 ps.length c0]) :: (C (k + 1) ++ F)) _) := HS
   refine wl_as HF rfl rfl rfl rfl rfl ?_; clear HF a; intro a HF
   refine wl_ne ?_
   refine wp_seq ?_
   refine wp_sr ?_
   refine wl_mv HF rfl rfl rfl rfl rfl ?_; clear HF a; intro a HF
   refine wl_y rfl HF rfl rfl (yl_not rfl (HF.ev rfl)) ?_; clear HF a; intro a HF
   refine wl_ne ?_
   refine wc_false HF rfl ?_
   refine wp_skip ?_
   refine ex_then ?_
   refine wp_region_lit ?_
   refine wl_y rfl HF rfl rfl (yl_fieldAddr (j := 0) rfl (HF.ev rfl) (by kernel_rfl)) ?_; clear HF a; intro a HF
   refine wl_y rfl HF rfl rfl (yl_load (v := .slice ao qs.length cp) rfl (HF.ev rfl) (((HS.out.box 5 rfl).cell 0).trans rfl) (by kernel_rfl)) ?_; clear HF a; intro a HF
   refine wl_y rfl HF rfl rfl (yl_loadR (cs := [.slice q.a0 q.d.fCells.length q.c0, .slice q.a1 q.d.fWaits.length q.c1, .bool q.d.fGone]) rfl (HF.ev rfl) ((HS.out.box 0 rfl).sub 0 3) (by kernel_rfl)) ?_; clear HF a; intro a HF
   refine wl_buildS (enc := HD.cells) (e := 94) (size := 3) rfl HF rfl rfl rfl (ps := [(0, .agg #[.slice q.a0 q.d.fCells.length q.c0, .slice q.a1 q.d.fWaits.length q.c1, .bool q.d.fGone])]) rfl (cells := [.slice q.a0 q.d.fCells.length q.c0, .slice q.a1 q.d.fWaits.length q.c1, .bool q.d.fGone]) (by kernel_rfl) [q] rfl rfl (by unfold maxLen; omega) rfl HS.out ?_; clear HF HS a; intro b7 a w13 HF HS; replace HS := Bx.mk HS
   refine wl_appL rfl HF rfl rfl rfl (HF.ev rfl) (HF.ev rfl) elemD HD.cells_len HS.out 4 (xs := qs) rfl (ys := [q]) (St.rdN HS.out HD.cells_len 0 rfl) (cells_one_D _) (by unfold maxLen; simp only [List.length_cons, List.length_nil]; omega) (by simp only [List.length_cons, List.length_nil]; omega) ?_; clear HF HS a; intro ao8 cp9 w14 a HF HS; replace HS := Bx.mk HS
   replace HS : Bx (St w0 (rowA HD.cells 3 94 (.slice (some ⟨b7, 0, none⟩) 1 1) ([q]) :: boxA b6 3 94 (.agg #[.slice q.a0 q.d.fCells.length q.c0, .slice q.a1 q.d.fWaits.length q.c1, .bool q.d.fGone]) :: HD.asr q :: boxA b4 3 94 (.agg #[.slice ((ps.getD k default).a0) ((ps.getD k default).d.fCells.length) ((ps.getD k default).c0), .slice ((ps.getD k default).a1) ((ps.getD k default).d.fWaits.length) ((ps.getD k default).c1), .bool ((ps.getD k default).d.fGone)]) :: rowA HD.cells 3 94 (.slice ao8 (qs.length + ([q]).length) cp9) (qs ++ ([q])) :: sepA (qs.map HD.asr) :: boxA b3 1 34 (.agg #[.slice ao qs.length cp]) :: boxA b2 1 34 (.agg #[.slice none 0 0]) :: boxA b1 1 34 (.agg #[.slice a0 ps.length c0]) :: (C (k + 1) ++ F)) _) := ⟨HS.out⟩
   refine wl_y rfl HF rfl rfl (yl_fieldAddr (j := 0) rfl (HF.ev rfl) (by kernel_rfl)) ?_; clear HF a; intro a HF
   refine wl_storeF rfl rfl rfl (HF.ev rfl) (HF.ev rfl) (by kernel_rfl) HS.out 6 rfl rfl rfl ?_; clear HS; intro w15 HS; replace HS := Bx.mk HS
   have HS : Bx (St w0 (rowA HD.cells 3 94 (.slice (some ⟨b7, 0, none⟩) 1 1) ([q]) :: boxA b6 3 94 (.agg #[.slice q.a0 q.d.fCells.length q.c0, .slice q.a1 q.d.fWaits.length q.c1, .bool q.d.fGone]) :: HD.asr q :: boxA b4 3 94 (.agg #[.slice ((ps.getD k default).a0) ((ps.getD k default).d.fCells.length) ((ps.getD k default).c0), .slice ((ps.getD k default).a1) ((ps.getD k default).d.fWaits.length) ((ps.getD k default).c1), .bool ((ps.getD k default).d.fGone)]) :: rowA HD.cells 3 94 (.slice ao8 (qs.length + ([q]).length) cp9) (qs ++ ([q])) :: sepA (qs.map HD.asr) :: boxA b3 1 34 (.agg #[.slice ao8 (qs.length + ([q]).length) cp9]) :: boxA b2 1 34 (.agg #[.slice none 0 0]) :: boxA b1 1 34 (.agg #[.slice a0 ps.length c0]) :: (C (k + 1) ++ F)) _) := HS
   refine wpList_nil ?_
   refine ex_block ?_
   refine ex_then ?_
   refine wp_region_lit ?_
   refine wl_y rfl HF rfl rfl (yl_addI rfl (HF.ev rfl) (HF.ev rfl) (i64w (by omega))) ?_; clear HF a; intro a HF
   refine wl_mv HF rfl rfl rfl rfl rfl ?_; clear HF a; intro a HF
   refine wl_ne ?_
   have hz : qs.length + [q].length = (qs ++ [q]).length := (List.length_append ..).symm
   rw [hz] at HS
   replace HS := Bx.mk (St.hdSnoc (((HS.out).pick 5 rfl).pick 3 rfl))
   replace HS := Bx.mk ((((((((((HS.out).pick 7 rfl).pick 7 rfl).pick 7 rfl).pick 3 rfl).pick 7 rfl).erase 7).erase 6).erase 5))
   have hnext : eachTo step (dsOf ps) (k + 1) = some (dsOf (qs ++ [q])) := by rw [dsOf_append]; exact eachTo_next (x := q.d) hq (by rw [dsOf_get]; exact hev)
   exact ⟨k + 1, ⟨_, _, qs ++ [q], ⟨by omega, by rw [List.length_append]; show qs.length + 1 = k + 1; omega, hnext⟩, HF.less _ ⟨rfl, rfl, rfl, rfl, rfl, rfl, rfl, rfl, trivial⟩, HS.out⟩, (by omega)⟩
 ·clear HF; have HF := HF1; clear HF1
  have dcc1 := of_decide_eq_false cc1
  refine wc_false HF rfl ?_
  refine wp_exit ?_
  refine ex_then_exit ?_
  refine ex_then_exit ?_
  refine ex_block_hit ?_
  refine ex_then ?_
  refine wp_sr ?_
  refine wl_y rfl HF rfl rfl (yl_loadR (cs := [.slice ao qs.length cp]) rfl (HF.ev rfl) ((HS.out.box 2 rfl).sub 0 1) (by kernel_rfl)) ?_; clear HF a; intro a HF
  refine wl_storeBox rfl HF rfl rfl (HF.ev rfl) (HF.ev rfl) HS.out 3 rfl (cells_lit [.slice ao qs.length cp] rfl rfl) (by kernel_rfl) ?_; clear HS; intro w16 HS; replace HS := Bx.mk HS
  have HS : Bx (St w0 (rowA HD.cells 3 94 (.slice ao qs.length cp) qs :: sepA (qs.map HD.asr) :: boxA b3 1 34 (.agg #[.slice ao qs.length cp]) :: boxA b2 1 34 (.agg #[.slice ao qs.length cp]) :: boxA b1 1 34 (.agg #[.slice a0 ps.length c0]) :: (C k ++ F)) _) := HS
  refine wl_as HF rfl rfl rfl rfl rfl ?_; clear HF a; intro a HF
  refine wl_ne ?_
  refine wp_ret ?_
  refine bp_ret2 HF Tryz.results75 (HF.resBox rfl (HS.out.box 3 rfl) (by kernel_rfl)) (HF.res rfl) ?_
  replace HS : Bx (St w0 (rowA HD.cells 3 94 (.slice ao qs.length cp) qs :: sepA (qs.map HD.asr) :: boxA b3 1 34 (.agg #[.slice ao qs.length cp]) :: boxA b2 1 34 (.agg #[.slice ao qs.length cp]) :: boxA b1 1 34 (.agg #[.slice a0 ps.length c0]) :: (C k ++ F)) _) := ⟨((HS.out).pick 1 rfl).pick 1 rfl⟩
  obtain rfl : k = ps.length := by omega
  exact .inr ⟨_, _, qs, hq, rfl, (((HS.out.erase 4).erase 3).erase 2)⟩

end Go.Proofs.YtoaopmkbfifhaaaGreatDoor

/- FnExactRaidHeal: the law's walk. -/
namespace Go.Proofs.YtoaopmkbfifhaaaGreatDoor
set_option linter.unusedVariables false
set_option linter.unusedSimpArgs false
set_option maxHeartbeats 1000000
set_option maxRecDepth 100000
open Go.RowKit

theorem list_size_le : ∀ (xs : List ByteArray) (k : Nat), (xs.getD k ByteArray.empty).size ≤ tot ByteArray.size xs
  | [], k => by simp [List.getD, tot]
  | x :: xs, 0 => by simp [List.getD, tot]
  | x :: xs, k + 1 => by have := list_size_le xs k; simp only [tot, List.getD_cons_succ]; omega
theorem list_wait_le : ∀ (xs : List WaitD) (k : Nat), (xs.getD k default).fText.size ≤ tot WaitD.bulk xs
  | [], k => by simp [List.getD, tot]; rfl
  | x :: xs, 0 => by simp only [List.getD_cons_zero, tot]; unfold WaitD.bulk; omega
  | x :: xs, k + 1 => by have := list_wait_le xs k; simp only [tot, List.getD_cons_succ]; omega
theorem RaidD.fits {r : RaidD} (h : r.bulk ≤ 1048576) (k : Nat) : (r.fDisks.getD k default).fits := by
  unfold RaidD.bulk at h
  have h1 := tot_one DiskD.bulk rfl r.fDisks k
  have h2 : DiskD.bulk (r.fDisks.getD k default) = ((r.fDisks.getD k default).fCells.length + tot ByteArray.size (r.fDisks.getD k default).fCells) + ((r.fDisks.getD k default).fWaits.length + tot WaitD.bulk (r.fDisks.getD k default).fWaits) := rfl
  exact ⟨by omega, by omega, fun j => by have := list_size_le (r.fDisks.getD k default).fCells j; omega, fun j => by have := list_wait_le (r.fDisks.getD k default).fWaits j; omega⟩
theorem putD_len (d : DiskD) (n : Int) (t : ByteArray) : (d.putD n t).fCells.length = d.fCells.length ∧ (d.putD n t).fWaits.length = d.fWaits.length + 1 := ⟨rfl, by simp [DiskD.putD]⟩
theorem stepPut_len {row : Int} {col : Nat → ByteArray} {wanted : Nat → Bool} {i : Nat} {d x : DiskD} (h : stepPut row col wanted i d = some x) : x.fCells.length = d.fCells.length ∧ x.fWaits.length ≤ d.fWaits.length + 1 := by
  unfold stepPut at h
  cases h1 : (d.fGone || !wanted i) with
  | true => rw [h1] at h; obtain rfl : d = x := by simpa using h
            omega
  | false =>
    rw [h1] at h
    cases h2 : d.can row (col i) with
    | true => rw [h2] at h; obtain rfl : d.putD row (col i) = x := by simpa using h
              have := putD_len d row (col i); omega
    | false => rw [h2] at h; simp at h
theorem eachTo_at {f : Nat → DiskD → Option DiskD} {ds : List DiskD} : ∀ {n : Nat} {xs : List DiskD}, eachTo f ds n = some xs → ∀ k, k < n → f k (ds.getD k default) = some (xs.getD k default) := by
  intro n
  induction n with
  | zero => intro xs _ k hk; omega
  | succ n ih =>
    intro xs h k hk
    unfold eachTo at h
    cases h1 : eachTo f ds n with
    | none => rw [h1] at h; cases h
    | some ys =>
      rw [h1] at h
      simp only at h
      cases h2 : f n (ds.getD n default) with
      | none => rw [h2] at h; cases h
      | some y =>
        rw [h2] at h
        obtain rfl : ys ++ [y] = xs := by simpa using h
        have hl := eachTo_len h1
        by_cases hkn : k < n
        · rw [ih h1 k hkn]; simp only [List.getD_eq_getElem?_getD]; rw [List.getElem?_append_left (by omega)]
        · obtain rfl : k = n := by omega
          rw [h2]; simp only [List.getD_eq_getElem?_getD]; rw [List.getElem?_append_right (by omega), hl]; simp
theorem own_nil (w w' : World) : RaidD.Own w' w.heap.size w'.heap.size (.agg #[.slice none 0 0]) ⟨[]⟩ :=
  ⟨none, 0, [], rfl, rfl, RowO.empty _ _ _ _ _ _ _, fun p h => absurd h (by simp), List.pairwise_singleton ..⟩

end Go.Proofs.YtoaopmkbfifhaaaGreatDoor
