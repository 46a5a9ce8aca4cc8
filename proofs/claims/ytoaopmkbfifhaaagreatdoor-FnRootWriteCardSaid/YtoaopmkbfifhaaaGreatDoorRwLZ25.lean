/- A part of the proof in YtoaopmkbfifhaaaGreatDoorRwLZ29. -/
import Derived.Test.YtoaopmkbfifhaaaGreatDoorRwLZ24
/- Drawing disks with roots. -/
namespace Go.Proofs.YtoaopmkbfifhaaaGreatDoor
set_option linter.unusedVariables false
set_option linter.unusedSimpArgs false
set_option maxHeartbeats 1000000
set_option maxRecDepth 100000
open Go.RowKit

theorem root_small (x : RootD) : (rootB x).size ≤ 700 := by
  cases h : x.ok with
  | false => rw [rootB_no h]; exact Nat.zero_le _
  | true =>
    rw [rootB_yes h]
    have e : signB ([(⟨#[114, 111, 111, 116]⟩ : ByteArray), numB x.fTxg] ++ treeB x.fMeta) = (fieldsPut [⟨#[114, 111, 111, 116]⟩, numB x.fTxg, ptrB x.fMeta.fRoot, numB x.fMeta.fDepth, numB x.fMeta.fMany, decB (sumOf (fieldsPut ([(⟨#[114, 111, 111, 116]⟩ : ByteArray), numB x.fTxg] ++ treeB x.fMeta)).1).toNat]).1 := rfl
    rw [e]
    have hs := sumOf_le (fieldsPut ([(⟨#[114, 111, 111, 116]⟩ : ByteArray), numB x.fTxg] ++ treeB x.fMeta)).1
    generalize sumOf (fieldsPut ([(⟨#[114, 111, 111, 116]⟩ : ByteArray), numB x.fTxg] ++ treeB x.fMeta)).1 = sm at hs
    have h1 := numB_le x.fTxg
    have h2 := ptrB_le x.fMeta.fRoot
    have h3 := numB_le x.fMeta.fDepth
    have h4 := numB_le x.fMeta.fMany
    have h5 : (decB sm.toNat).size ≤ 9 := decB_9 (by omega)
    have hz := rec_le (y := ⟨#[114, 111, 111, 116]⟩) (by decide) (rec_le (y := numB x.fTxg) (by omega) (rec_le (y := ptrB x.fMeta.fRoot) (by omega) (rec_le (y := numB x.fMeta.fDepth) (by omega) (rec_le (y := numB x.fMeta.fMany) (by omega) (rec_le (y := decB sm.toNat) (by omega) (Nat.le_refl (recB []).size))))))
    have h0 : (recB []).size = 0 := rfl
    rw [fieldsPut_yes (by simp only [List.length_cons, List.length_nil]; omega) (by omega)]
    show (recB _).size ≤ 700
    omega
theorem niceS_set {n k : Nat} {ds : List DiskD} {d : DiskD} (h : niceS n ds) (hd : d.nice n) : niceS n (ds.set k d) := ⟨by rw [List.length_set]; exact h.1, fun e he => (List.mem_or_eq_of_mem_set he).elim (h.2 e) fun q => by rw [q]; exact hd⟩
theorem nice_cell {n m : Nat} {d : DiskD} {t : ByteArray} (h : d.nice n) (ht : t.size ≤ 1000) : DiskD.nice n { d with fCells := d.fCells.set m t } := ⟨h.g, by rw [List.length_set]; exact h.c, h.w, h.a, fun x hx => (List.mem_or_eq_of_mem_set hx).elim (h.z x) fun e => by rw [e]; exact ht, h.u⟩
theorem fits_cell {n m : Nat} {d : DiskD} {t : ByteArray} (h : d.nice n) (hn : n ≤ 1000) (ht : t.size ≤ 100000) : DiskD.fits { d with fCells := d.fCells.set m t } := ⟨by show (d.fCells.set m t).length ≤ _; rw [List.length_set, h.c]; omega, by have := h.w; show d.fWaits.length ≤ _; omega, fun k => by have := getD_le (xs := d.fCells.set m t) (m := 100000) (fun x hx => (List.mem_or_eq_of_mem_set hx).elim (fun hm => Nat.le_trans (h.z x hm) (by decide)) fun e => by rw [e]; exact ht) k; show ((d.fCells.set m t).getD k _).size ≤ _; omega, fun k => by have := waits_le h.u k; show ((d.fWaits.getD k default).fText).size ≤ _; omega⟩
theorem set_self {qs : List HD} {k : Nat} (hk : k < qs.length) {q : HD} (h : q = qs.getD k default) : qs.set k q = qs := by
  rw [h, getD_get hk]
  exact List.set_getElem_self hk
/-- A cell written in a disk of a set. -/
theorem St.cellIn {W w : World} {F : List Asr} {g : Nat} {c : Nat} {qs : List HD} {k m : Nat} {q : HD} {t : ByteArray} (hk : k < qs.length) (hq : q = qs.getD k default) (h : St W (rowA HD.cells 3 94 (.slice (some ⟨g, 0, none⟩) 3 c) qs :: rowA encS 1 9 (.slice q.a0 q.d.fCells.length q.c0) (q.d.fCells.set m t) :: rowA WaitD.cells 2 137 (.slice q.a1 q.d.fWaits.length q.c1) q.d.fWaits :: sepA ((qs.eraseIdx k).map HD.asr) :: F) w) :
    St W (rowA HD.cells 3 94 (.slice (some ⟨g, 0, none⟩) 3 c) (qs.set k ⟨q.a0, q.c0, q.a1, q.c1, { q.d with fCells := q.d.fCells.set m t }⟩) :: sepA ((qs.set k ⟨q.a0, q.c0, q.a1, q.c1, { q.d with fCells := q.d.fCells.set m t }⟩).map HD.asr) :: F) w := by
  have hcc : HD.cells ⟨q.a0, q.c0, q.a1, q.c1, { q.d with fCells := q.d.fCells.set m t }⟩ = HD.cells q := by simp only [HD.cells, List.length_set]
  have hlen : q.d.fCells.length = (q.d.fCells.set m t).length := List.length_set.symm
  have h1 := h.imp0 (fun w f h => rowA_congr (ys := qs.set k ⟨q.a0, q.c0, q.a1, q.c1, { q.d with fCells := q.d.fCells.set m t }⟩) (by simp) ((congrArg (List.flatMap HD.cells) (set_self hk hq).symm).trans (flatMap_set_same hcc)) h)
  have h2 := St.pick (St.pick (St.pick h1 1 rfl) 2 rfl) 3 rfl
  rw [hlen] at h1
  have h3 := ((h1.pick 2 rfl).pick 2 rfl)
  have h4 : St W (HD.asr ⟨q.a0, q.c0, q.a1, q.c1, { q.d with fCells := q.d.fCells.set m t }⟩ :: _) w := (St.join (r := [_, _])).1 h3
  have h5 := St.hdIn ((h4.pick 2 rfl).swap) hk
  exact h5.swap

set_option maxHeartbeats 4000000 in
theorem l93Roots_any (w0 w : World) (rb : Nat) (ab : Option Addr) (n cb : Nat) (bs : List UInt8) (hn : n ≤ 2000) (hR : Rd encB 1 w0 ab n bs) (B : Nat) (hB : B ≤ 600000) (F : List Asr) (hS : St w0 (rdA rb ab n cb B :: F) w) : Calls Tryz.prog 49 #[.pointer (some ⟨rb, 0, none⟩)] w fun e w' => ∃ (ao : Option Addr) (co : Nat) (ps : List HD), e = .returned (.agg #[.slice ao ps.length co]) ∧ ps.length = 3 ∧ fitsL ps ∧ St w0 (rdA rb ab n cb (B + 2500) :: holdsA (rdsP ao ps) :: F) w' := by
 have HS := Bx.mk hS; clear hS
 refine wc_enter Tryz.func49 rfl Tryz.ntmps49 [(0, .pointer (some ⟨rb, 0, none⟩))] ⟨rfl, trivial⟩ rfl ?_; intro a HF
 refine wp_sr ?_
 refine wl_alloc rfl HF rfl rfl rfl (Z := [.slice none 0 0]) (by kernel_rfl) rfl HS.out ?_; clear HF HS a; intro a w1 b1 HF HS; replace HS := Bx.mk HS
 refine wl_ne ?_
 refine wp_sr ?_
 refine wl_call rfl HF rfl (enter_of Tryz.func93 (by kernel_rfl) rfl) (args := #[]) rfl (raidNew_any _) rfl rfl ?_
 rintro _ w2 ⟨gR, cR, qs0, hq0, rfl, hs⟩
 have hl0 : qs0.length = 3 := by rw [← dsOf_len, hq0]; rfl
 have hn0 : niceS 0 (dsOf qs0) := by rw [hq0]; exact nice3
 rw [hl0] at hs; refine ⟨_, rfl, ?_⟩; replace HS := Bx.mk (HS.out.add hs); clear hs HF; clear a; intro a HF; rw [hl0] at HF
 replace HS : Bx (St w0 (rowA HD.cells 3 94 (.slice (some ⟨gR, 0, none⟩) 3 cR) qs0 :: sepA (qs0.map HD.asr) :: boxA b1 1 34 (.agg #[.slice none 0 0]) :: rdA rb ab n cb B :: F) _) := ⟨HS.out⟩
 refine wl_alloc rfl HF rfl rfl rfl (Z := [.slice none 0 0]) (by kernel_rfl) rfl HS.out ?_; clear HF HS a; intro a w3 b2 HF HS; replace HS := Bx.mk HS
 refine wl_storeBox rfl HF rfl rfl (HF.ev rfl) (HF.ev rfl) HS.out 0 rfl (cells_lit [.slice (some ⟨gR, 0, none⟩) 3 cR] rfl rfl) (by kernel_rfl) ?_; clear HS; intro w4 HS; replace HS := Bx.mk HS
 have HS : Bx (St w0 (boxA b2 1 34 (.agg #[.slice (some ⟨gR, 0, none⟩) 3 cR]) :: rowA HD.cells 3 94 (.slice (some ⟨gR, 0, none⟩) 3 cR) qs0 :: sepA (qs0.map HD.asr) :: boxA b1 1 34 (.agg #[.slice none 0 0]) :: rdA rb ab n cb B :: F) _) := HS
 refine wl_ne ?_
 refine wp_seq ?_
 refine wp_sr ?_
 refine wl_mv HF rfl rfl rfl rfl rfl ?_;clear HF a;intro a HF
 replace HS:=Bx.mk (HS.out.pick 4 rfl)
 refine wl_call rfl HF rfl (enter_of Tryz.func94 (by kernel_rfl) rfl) (args := #[.pointer (some ⟨rb, 0, none⟩), .int .i64 6]) rfl (pickN w0 _ rb ab n cb bs hn hR B (by omega) 6 (by omega) _ HS.out) rfl rfl ?_
 rintro _ w5 ⟨dn3, rfl, hu3, hs1⟩
 refine ⟨_, rfl, ?_⟩; replace HS := Bx.mk hs1; clear hs1 HF; clear a; intro a HF
 replace HS : Bx (St w0 (rdA rb ab n cb (B + 1) :: boxA b2 1 34 (.agg #[.slice (some ⟨gR, 0, none⟩) 3 cR]) :: rowA HD.cells 3 94 (.slice (some ⟨gR, 0, none⟩) 3 cR) qs0 :: sepA (qs0.map HD.asr) :: boxA b1 1 34 (.agg #[.slice none 0 0]) :: F) _) := ⟨HS.out⟩
 refine wl_as HF rfl rfl rfl rfl rfl ?_;clear HF a;intro a HF
 refine wl_ne ?_
 refine wp_block ?_
 replace HS:=Bx.mk (HS.out.pick 0 rfl)
 replace HS : Bx (St w0 (rdA rb ab n cb (B + 1 + 300 * 0) :: boxA b2 1 34 (.agg #[.slice (some ⟨gR, 0, none⟩) 3 cR]) :: rowA HD.cells 3 94 (.slice (some ⟨gR, 0, none⟩) 3 cR) qs0 :: sepA (qs0.map HD.asr) :: boxA b1 1 34 (.agg #[.slice none 0 0]) :: F) _) := ⟨HS.out.rdLe (by omega)⟩
 refine wc_loop (ι := Nat) (fun k a w => ∃ (qs : List HD), (k ≤ dn3 ∧ niceS 0 (dsOf qs)) ∧ Fr 95 a [(0, .pointer (some ⟨rb, 0, none⟩)), (2, .pointer (some ⟨b1, 0, none⟩)), (3, .pointer (some ⟨b2, 0, none⟩)), (4, .int .i64 ((dn3 : Int) - (k : Int)))] ∧ St w0 (rdA rb ab n cb (B + 1 + 300 * k) :: boxA b2 1 34 (.agg #[.slice (some ⟨gR, 0, none⟩) 3 cR]) :: rowA HD.cells 3 94 (.slice (some ⟨gR, 0, none⟩) 3 cR) qs :: sepA (qs.map HD.asr) :: boxA b1 1 34 (.agg #[.slice none 0 0]) :: F) w) (fun k => dn3 - k) 0 ⟨qs0, ⟨Nat.zero_le _, hn0⟩, HF.less _ ⟨rfl, rfl, rfl, (by show some (Value.int .i64 _) = some (Value.int .i64 _); exact congrArg (fun z => some (Value.int .i64 z)) (by omega)), trivial⟩, HS.out⟩ ?_
 clear HF HS; clear a
 rintro k a w6 ⟨qs, ⟨hk, hni⟩, HF, HS⟩
 replace HS := Bx.mk HS
 have hql := hni.len
 refine wp_seq ?_
 refine wp_sr ?_
 refine wl_mv HF rfl rfl rfl rfl rfl ?_;clear HF a;intro a HF
 refine wl_y rfl HF rfl rfl (yl_gtrI rfl (HF.ev rfl) (HF.ev rfl)) ?_;clear HF a;intro a HF
 refine wl_ne ?_
 refine HF.cases 15 rfl (fun cc1 HF1 => ?_) (fun cc1 HF1 => ?_)
 ·clear HF; have HF := HF1; clear HF1
  have dcc1 := of_decide_eq_true cc1
  refine wc_true HF rfl ?_
  refine wp_skip ?_
  refine ex_then ?_
  refine wp_seq ?_
  refine wp_block ?_
  refine wp_sr ?_
  refine wl_mv HF rfl rfl rfl rfl rfl ?_;clear HF a;intro a HF
  replace HS:=Bx.mk (HS.out.pick 0 rfl)
  refine wl_call rfl HF rfl (enter_of Tryz.func50 (by kernel_rfl) rfl) (args := #[.pointer (some ⟨rb, 0, none⟩)]) rfl (l93Root_any w0 _ rb ab n cb bs hn hR (B + 1 + 300 * k) (by omega) _ HS.out) rfl rfl ?_
  rintro _ w7 ⟨dx4, hx4a, hx4b, rfl, hs1⟩
  refine ⟨_, rfl, ?_⟩; replace HS := Bx.mk hs1; clear hs1 HF; clear a; intro a HF
  replace HS : Bx (St w0 (rdA rb ab n cb (B + 1 + 300 * k + 120) :: boxA b2 1 34 (.agg #[.slice (some ⟨gR, 0, none⟩) 3 cR]) :: rowA HD.cells 3 94 (.slice (some ⟨gR, 0, none⟩) 3 cR) qs :: sepA (qs.map HD.asr) :: boxA b1 1 34 (.agg #[.slice none 0 0]) :: F) _) := ⟨HS.out⟩
  refine wl_alloc rfl HF rfl rfl rfl (Z := [.int .i64 0, .int .i64 0, .int .i64 0, .int .i64 0, .int .i64 0, .int .i64 0, .int .i64 0, .int .i64 0]) (by kernel_rfl) rfl HS.out ?_; clear HF HS a; intro a w8 b5 HF HS; replace HS := Bx.mk HS
  refine wl_storeBox rfl HF rfl rfl (HF.ev rfl) (HF.ev rfl) HS.out 0 rfl (cells_lit [.int .i64 dx4.fTxg, .int .i64 dx4.fMeta.fRoot.fAt, .int .i64 dx4.fMeta.fRoot.fBirth, .int .i64 dx4.fMeta.fRoot.fSize, .int .i64 dx4.fMeta.fRoot.fSum, .int .i64 dx4.fMeta.fRoot.fLevel, .int .i64 dx4.fMeta.fDepth, .int .i64 dx4.fMeta.fMany] rfl rfl) (by kernel_rfl) ?_; clear HS; intro w9 HS; replace HS := Bx.mk HS
  have HS : Bx (St w0 (boxA b5 8 42 (rV dx4) :: rdA rb ab n cb (B + 1 + 300 * k + 120) :: boxA b2 1 34 (.agg #[.slice (some ⟨gR, 0, none⟩) 3 cR]) :: rowA HD.cells 3 94 (.slice (some ⟨gR, 0, none⟩) 3 cR) qs :: sepA (qs.map HD.asr) :: boxA b1 1 34 (.agg #[.slice none 0 0]) :: F) _) := HS
  refine wl_ne ?_
  refine wp_sr ?_
  refine wl_y rfl HF rfl rfl (yl_fieldAddr (j := 0) rfl (HF.ev rfl) (by kernel_rfl)) ?_;clear HF a;intro a HF
  refine wl_y rfl HF rfl rfl (yl_load (v := .int .i64 dx4.fTxg) rfl (HF.ev rfl) (((HS.out.box 0 rfl).cell 0).trans rfl) (by kernel_rfl)) ?_;clear HF a;intro a HF
  refine wl_y rfl HF rfl rfl (yl_remI rfl (HF.ev rfl) (HF.ev rfl) (by omega) (rem_pos (by omega) (by omega))) ?_;clear HF a;intro a HF
  refine wl_as HF rfl rfl rfl rfl rfl ?_;clear HF a;intro a HF
  refine wl_ne ?_
  refine wp_seq ?_
  refine wp_sr ?_
  refine wl_mv HF rfl rfl rfl rfl rfl ?_;clear HF a;intro a HF
  replace HS:=Bx.mk (HS.out.pick 1 rfl)
  refine wl_call rfl HF rfl (enter_of Tryz.func94 (by kernel_rfl) rfl) (args := #[.pointer (some ⟨rb, 0, none⟩), .int .i64 8]) rfl (pickN w0 _ rb ab n cb bs hn hR (B + 1 + 300 * k + 120) (by omega) 8 (by omega) _ HS.out) rfl rfl ?_
  rintro _ w10 ⟨dn6, rfl, hu6, hs1⟩
  refine ⟨_, rfl, ?_⟩; replace HS := Bx.mk hs1; clear hs1 HF; clear a; intro a HF
  replace HS : Bx (St w0 (rdA rb ab n cb (B + 1 + 300 * k + 120 + 1) :: boxA b5 8 42 (rV dx4) :: boxA b2 1 34 (.agg #[.slice (some ⟨gR, 0, none⟩) 3 cR]) :: rowA HD.cells 3 94 (.slice (some ⟨gR, 0, none⟩) 3 cR) qs :: sepA (qs.map HD.asr) :: boxA b1 1 34 (.agg #[.slice none 0 0]) :: F) _) := ⟨HS.out⟩
  refine wl_y rfl HF rfl rfl (yl_eqlI rfl (HF.ev rfl) (HF.ev rfl)) ?_;clear HF a;intro a HF
  refine wl_ne ?_
  refine HF.cases 25 rfl (fun cc2 HF1 => ?_) (fun cc2 HF1 => ?_)
  ·clear HF; have HF := HF1; clear HF1
   have dcc2 := eq_of_beq cc2
   refine wc_true HF rfl ?_
   refine wp_region_lit ?_
   refine wl_mv HF rfl rfl rfl rfl rfl ?_;clear HF a;intro a HF
   replace HS:=Bx.mk (HS.out.pick 0 rfl)
   refine wl_call rfl HF rfl (enter_of Tryz.func94 (by kernel_rfl) rfl) (args := #[.pointer (some ⟨rb, 0, none⟩), .int .i64 4]) rfl (pickN w0 _ rb ab n cb bs hn hR (B + 1 + 300 * k + 120 + 1) (by omega) 4 (by omega) _ HS.out) rfl rfl ?_
   rintro _ w11 ⟨dn7, rfl, hu7, hs1⟩
   refine ⟨_, rfl, ?_⟩; replace HS := Bx.mk hs1; clear hs1 HF; clear a; intro a HF
   replace HS : Bx (St w0 (rdA rb ab n cb (B + 1 + 300 * k + 120 + 1 + 1) :: boxA b5 8 42 (rV dx4) :: boxA b2 1 34 (.agg #[.slice (some ⟨gR, 0, none⟩) 3 cR]) :: rowA HD.cells 3 94 (.slice (some ⟨gR, 0, none⟩) 3 cR) qs :: sepA (qs.map HD.asr) :: boxA b1 1 34 (.agg #[.slice none 0 0]) :: F) _) := ⟨HS.out⟩
   refine wl_as HF rfl rfl rfl rfl rfl ?_;clear HF a;intro a HF
   refine wl_ne ?_
   refine wp_seq ?_
   obtain ⟨rn, hrn⟩ : ∃ r : Nat, r = dn7 := ⟨_, rfl⟩; rw [← hrn] at HF; have hr4 : rn < 4 := by omega
   replace HF : Fr 95 a [(0, .pointer (some ⟨rb, 0, none⟩)), (2, .pointer (some ⟨b1, 0, none⟩)), (3, .pointer (some ⟨b2, 0, none⟩)), (4, .int .i64 ((dn3 : Int) - (k : Int))), (5, .pointer (some ⟨b5, 0, none⟩)), (6, .int .i64 (rn : Int))] := HF.less _ ⟨rfl, rfl, rfl, rfl, rfl, rfl, trivial⟩
   refine wp_region_lit ?_
   refine wl_y rfl HF rfl rfl (yl_loadR (cs := [.int .i64 dx4.fTxg, .int .i64 dx4.fMeta.fRoot.fAt, .int .i64 dx4.fMeta.fRoot.fBirth, .int .i64 dx4.fMeta.fRoot.fSize, .int .i64 dx4.fMeta.fRoot.fSum, .int .i64 dx4.fMeta.fRoot.fLevel, .int .i64 dx4.fMeta.fDepth, .int .i64 dx4.fMeta.fMany]) rfl (HF.ev rfl) ((HS.out.box 1 rfl).sub 0 8) (by kernel_rfl)) ?_;clear HF a;intro a HF
   refine wl_callB rfl HF rfl (enter_of Tryz.func32 (by kernel_rfl) rfl) (args := #[(rV dx4)]) rfl (v := .string (rootB dx4)) (specRootPut_any dx4 _) rfl rfl HS.out ?_; clear HF HS a; intro w12 a HS HF; replace HS := Bx.mk HS
   refine wl_as HF rfl rfl rfl rfl rfl ?_;clear HF a;intro a HF
   refine wl_ne ?_
   refine wp_sr ?_
   refine wl_as HF rfl rfl rfl rfl rfl ?_;clear HF a;intro a HF
   refine wl_ne ?_
   refine wp_block ?_
   replace HS:=Bx.mk (HS.out.pick 0 rfl)
   replace HS : Bx (St w0 (rdA rb ab n cb (B + 1 + 300 * k + 120 + 1 + 1 + 1 * 0) :: boxA b5 8 42 (rV dx4) :: boxA b2 1 34 (.agg #[.slice (some ⟨gR, 0, none⟩) 3 cR]) :: rowA HD.cells 3 94 (.slice (some ⟨gR, 0, none⟩) 3 cR) qs :: sepA (qs.map HD.asr) :: boxA b1 1 34 (.agg #[.slice none 0 0]) :: F) _) := ⟨HS.out.rdLe (by omega)⟩
   refine wc_loop (ι := Nat) (fun i a w => ∃ (zs : List HD), (i ≤ 3 ∧ niceS 0 (dsOf zs)) ∧ Fr 95 a [(0, .pointer (some ⟨rb, 0, none⟩)), (2, .pointer (some ⟨b1, 0, none⟩)), (3, .pointer (some ⟨b2, 0, none⟩)), (4, .int .i64 ((dn3 : Int) - (k : Int))), (6, .int .i64 (rn : Int)), (7, .string (rootB dx4)), (8, .int .i64 (i : Int))] ∧ St w0 (rdA rb ab n cb (B + 1 + 300 * k + 120 + 1 + 1 + 1 * i) :: boxA b5 8 42 (rV dx4) :: boxA b2 1 34 (.agg #[.slice (some ⟨gR, 0, none⟩) 3 cR]) :: rowA HD.cells 3 94 (.slice (some ⟨gR, 0, none⟩) 3 cR) zs :: sepA (zs.map HD.asr) :: boxA b1 1 34 (.agg #[.slice none 0 0]) :: F) w) (fun i => 3 - i) 0 ⟨qs, ⟨Nat.zero_le _, hni⟩, HF.less _ ⟨rfl, rfl, rfl, rfl, rfl, rfl, rfl, trivial⟩, HS.out⟩ ?_
   clear HF HS; clear a
   rintro i a w13 ⟨zs, ⟨hi3, hnz0⟩, HF, HS⟩
   replace HS := Bx.mk HS
   have hzl := hnz0.len
   refine wp_seq ?_
   refine wp_sr ?_
   refine wl_mv HF rfl rfl rfl rfl rfl ?_;clear HF a;intro a HF
   refine wl_y rfl HF rfl rfl (yl_lssI rfl (HF.ev rfl) (HF.ev rfl)) ?_;clear HF a;intro a HF
   refine wl_ne ?_
   refine HF.cases 31 rfl (fun cc3 HF1 => ?_) (fun cc3 HF1 => ?_)
   ·clear HF; have HF := HF1; clear HF1
    have dcc3 := of_decide_eq_true cc3
    refine wc_true HF rfl ?_
    refine wp_skip ?_
    refine ex_then ?_
    refine wp_seq ?_
    refine wp_block ?_
    refine wp_sr ?_
    refine wl_mv HF rfl rfl rfl rfl rfl ?_;clear HF a;intro a HF
    refine wl_y rfl HF rfl rfl (yl_geqI rfl (HF.ev rfl) (HF.ev rfl)) ?_;clear HF a;intro a HF
    refine wl_mv HF rfl rfl rfl rfl rfl ?_;clear HF a;intro a HF
    refine HF.cases 36 rfl (fun cc4 HF1 => ?_) (fun cc4 HF1 => ?_)
    ·clear HF; have HF := HF1; clear HF1
     have dcc4 := of_decide_eq_true cc4
     refine wl_yg HF rfl rfl rfl rfl rfl (yl_move rfl (HF.ev rfl)) ?_;clear HF a;intro a HF
     replace HS:=Bx.mk (HS.out.pick 0 rfl)
     refine wl_callg HF rfl rfl rfl rfl (enter_of Tryz.func94 (by kernel_rfl) rfl) (args := #[.pointer (some ⟨rb, 0, none⟩), .int .i64 4]) rfl (pickN w0 _ rb ab n cb bs hn hR (B + 1 + 300 * k + 120 + 1 + 1 + 1 * i) (by omega) 4 (by omega) _ HS.out) rfl rfl ?_
     rintro _ w14 ⟨dn8, rfl, hu8, hs1⟩
     refine ⟨_, rfl, ?_⟩; replace HS := Bx.mk hs1; clear hs1 HF; clear a; intro a HF
     replace HS : Bx (St w0 (rdA rb ab n cb (B + 1 + 300 * k + 120 + 1 + 1 + 1 * i + 1) :: boxA b5 8 42 (rV dx4) :: boxA b2 1 34 (.agg #[.slice (some ⟨gR, 0, none⟩) 3 cR]) :: rowA HD.cells 3 94 (.slice (some ⟨gR, 0, none⟩) 3 cR) zs :: sepA (zs.map HD.asr) :: boxA b1 1 34 (.agg #[.slice none 0 0]) :: F) _) := ⟨HS.out⟩
     refine wl_yg HF rfl rfl rfl rfl rfl (yl_gtrI rfl (HF.ev rfl) (HF.ev rfl)) ?_;clear HF a;intro a HF
     refine wl_y rfl HF rfl rfl (yl_pick_t rfl (HF.ev rfl) (HF.ev rfl)) ?_;clear HF a;intro a HF
     refine wl_ne ?_
     refine HF.cases 40 rfl (fun cc5 HF1 => ?_) (fun cc5 HF1 => ?_)
     ·clear HF; have HF := HF1; clear HF1
      have dcc5 := of_decide_eq_true cc5
      refine wc_true HF rfl ?_
      replace HS:=Bx.mk (HS.out.pick 4 rfl)
      replace HS := Bx.mk (HS.out.hdOut i (by omega))
      obtain ⟨⟨ya, yc, yb, ye, yd⟩, hy⟩ : ∃ q : HD, q = zs.getD i default := ⟨_, rfl⟩; rw [← hy] at HS
      have hny : yd.nice 0 := by have h := hnz0.get (k := i) (by omega); rw [← hy] at h; exact h
      have hyc := hny.c; replace HS := Bx.mk ((St.join (r := [_, _])).2 HS.out)
      replace HS : Bx (St w0 (rowA encS 1 9 (.slice ya yd.fCells.length yc) yd.fCells :: rowA WaitD.cells 2 137 (.slice yb yd.fWaits.length ye) yd.fWaits :: sepA ((zs.eraseIdx i).map HD.asr) :: rdA rb ab n cb (B + 1 + 300 * k + 120 + 1 + 1 + 1 * i + 1) :: boxA b5 8 42 (rV dx4) :: boxA b2 1 34 (.agg #[.slice (some ⟨gR, 0, none⟩) 3 cR]) :: rowA HD.cells 3 94 (.slice (some ⟨gR, 0, none⟩) 3 cR) zs :: boxA b1 1 34 (.agg #[.slice none 0 0]) :: F) _) := ⟨HS.out⟩
      obtain ⟨g9, rfl, _, _, _, _⟩ := HS.out.rowOpen 0 rfl (by omega)
      refine wp_region_lit ?_
      refine wl_y rfl HF rfl rfl (yl_fieldAddr (j := 0) rfl (HF.ev rfl) (by kernel_rfl)) ?_;clear HF a;intro a HF
      refine wl_y rfl HF rfl rfl (yl_load (v := .slice (some ⟨gR, 0, none⟩) 3 cR) rfl (HF.ev rfl) (((HS.out.box 5 rfl).cell 0).trans rfl) (by kernel_rfl)) ?_;clear HF a;intro a HF
      refine wl_mv HF rfl rfl rfl rfl rfl ?_;clear HF a;intro a HF
      refine wl_y rfl HF rfl rfl (yl_indexAddr (e := 94) (i := i) (size := 3) rfl (HF.ev rfl) (HF.ev rfl) (by kernel_rfl) rfl (by omega)) ?_;clear HF a;intro a HF
      refine wl_y rfl HF rfl rfl (yl_fieldAddr (j := 0) rfl (HF.ev rfl) (by kernel_rfl)) ?_;clear HF a;intro a HF
      refine wl_y rfl HF rfl rfl (yl_load (v := .slice (some ⟨g9, 0, none⟩) yd.fCells.length yc) rfl (HF.ev rfl) (HS.out.elem HD.cells_len 6 rfl ((get_getD (xs := zs) (j := i) (d := default) (by omega)).trans (congrArg some hy.symm)) 0 _ rfl) (by kernel_rfl)) ?_;clear HF a;intro a HF
      refine wl_mv HF rfl rfl rfl rfl rfl ?_;clear HF a;intro a HF
      refine wl_mv HF rfl rfl rfl rfl rfl ?_;clear HF a;intro a HF
      refine wl_y rfl HF rfl rfl (yl_indexAddr (e := 9) (i := rn) (size := 1) rfl (HF.ev rfl) (HF.ev rfl) (by kernel_rfl) rfl (by omega)) ?_;clear HF a;intro a HF
      refine wl_storeE encS_len rfl rfl rfl (HF.ev rfl) (HF.ev rfl) (by kernel_rfl) HS.out 0 rfl (by omega) (z := (rootB dx4)) rfl rfl ?_; clear HS; intro w15 HS; replace HS := Bx.mk HS
      refine wpList_nil ?_
      refine ex_block ?_
      refine ex_then ?_
      refine wp_region_lit ?_
      refine wl_mv HF rfl rfl rfl rfl rfl ?_;clear HF a;intro a HF
      refine wl_y rfl HF rfl rfl (yl_addI rfl (HF.ev rfl) (HF.ev rfl) (i64w (by omega))) ?_;clear HF a;intro a HF
      refine wl_as HF rfl rfl rfl rfl rfl ?_;clear HF a;intro a HF
      refine wl_ne ?_
      replace HS:=Bx.mk ((((HS.out.pick 2 rfl).pick 2 rfl).pick 2 rfl).pick 6 rfl)
      replace HS := Bx.mk (St.cellIn (q := (⟨some ⟨g9, 0, none⟩, yc, yb, ye, yd⟩ : HD)) (by omega) hy HS.out)
      replace HS : Bx (St w0 (rowA HD.cells 3 94 (.slice (some ⟨gR, 0, none⟩) 3 cR) (zs.set i ⟨some ⟨g9, 0, none⟩, yc, yb, ye, { yd with fCells := yd.fCells.set rn (rootB dx4) }⟩) :: sepA ((zs.set i ⟨some ⟨g9, 0, none⟩, yc, yb, ye, { yd with fCells := yd.fCells.set rn (rootB dx4) }⟩).map HD.asr) :: rdA rb ab n cb (B + 1 + 300 * k + 120 + 1 + 1 + 1 * i + 1) :: boxA b5 8 42 (rV dx4) :: boxA b2 1 34 (.agg #[.slice (some ⟨gR, 0, none⟩) 3 cR]) :: boxA b1 1 34 (.agg #[.slice none 0 0]) :: F) _) := ⟨HS.out⟩
      have hnz : niceS 0 (dsOf (zs.set i ⟨some ⟨g9, 0, none⟩, yc, yb, ye, { yd with fCells := yd.fCells.set rn (rootB dx4) }⟩)) := by rw [dsOf_set]; exact niceS_set hnz0 (nice_cell hny (Nat.le_trans (root_small _) (by decide)))
      replace HS:=Bx.mk (HS.out.pick 2 rfl)
      replace HS : Bx (St w0 (rdA rb ab n cb (B + 1 + 300 * k + 120 + 1 + 1 + 1 * (i + 1)) :: rowA HD.cells 3 94 (.slice (some ⟨gR, 0, none⟩) 3 cR) (zs.set i ⟨some ⟨g9, 0, none⟩, yc, yb, ye, { yd with fCells := yd.fCells.set rn (rootB dx4) }⟩) :: sepA ((zs.set i ⟨some ⟨g9, 0, none⟩, yc, yb, ye, { yd with fCells := yd.fCells.set rn (rootB dx4) }⟩).map HD.asr) :: boxA b5 8 42 (rV dx4) :: boxA b2 1 34 (.agg #[.slice (some ⟨gR, 0, none⟩) 3 cR]) :: boxA b1 1 34 (.agg #[.slice none 0 0]) :: F) _) := ⟨HS.out.rdLe (by omega)⟩
      replace HS:=Bx.mk ((((((HS.out.pick 5 rfl).pick 3 rfl).pick 3 rfl).pick 5 rfl).pick 5 rfl).pick 5 rfl)
      exact ⟨i + 1, ⟨zs.set i ⟨some ⟨g9, 0, none⟩, yc, yb, ye, { yd with fCells := yd.fCells.set rn (rootB dx4) }⟩, ⟨by omega, hnz⟩, HF.less _ ⟨rfl, rfl, rfl, rfl, rfl, rfl, rfl, trivial⟩, HS.out⟩, (by omega)⟩
     ·clear HF; have HF := HF1; clear HF1
      have dcc5 := of_decide_eq_false cc5
      refine wc_false HF rfl ?_
      refine wp_skip ?_
      refine ex_block ?_
      refine ex_then ?_
      refine wp_region_lit ?_
      refine wl_mv HF rfl rfl rfl rfl rfl ?_;clear HF a;intro a HF
      refine wl_y rfl HF rfl rfl (yl_addI rfl (HF.ev rfl) (HF.ev rfl) (i64w (by omega))) ?_;clear HF a;intro a HF
      refine wl_as HF rfl rfl rfl rfl rfl ?_;clear HF a;intro a HF
      refine wl_ne ?_
      replace HS:=Bx.mk (HS.out.pick 0 rfl)
      replace HS : Bx (St w0 (rdA rb ab n cb (B + 1 + 300 * k + 120 + 1 + 1 + 1 * (i + 1)) :: boxA b5 8 42 (rV dx4) :: boxA b2 1 34 (.agg #[.slice (some ⟨gR, 0, none⟩) 3 cR]) :: rowA HD.cells 3 94 (.slice (some ⟨gR, 0, none⟩) 3 cR) zs :: sepA (zs.map HD.asr) :: boxA b1 1 34 (.agg #[.slice none 0 0]) :: F) _) := ⟨HS.out.rdLe (by omega)⟩
      exact ⟨i + 1, ⟨zs, ⟨by omega, hnz0⟩, HF.less _ ⟨rfl, rfl, rfl, rfl, rfl, rfl, rfl, trivial⟩, HS.out⟩, (by omega)⟩
    ·clear HF; have HF := HF1; clear HF1
     have dcc4 := of_decide_eq_false cc4
     omega
   ·clear HF; have HF := HF1; clear HF1
    have dcc3 := of_decide_eq_false cc3
    refine wc_false HF rfl ?_
    refine wp_exit ?_
    refine ex_then_exit ?_
    refine ex_then_exit ?_
    refine ex_block_hit ?_
    refine ex_block ?_
    refine ex_then ?_
    refine wp_region_lit ?_
    refine wl_mv HF rfl rfl rfl rfl rfl ?_;clear HF a;intro a HF
    refine wl_y rfl HF rfl rfl (yl_subI rfl (HF.ev rfl) (HF.ev rfl) (i64w (by omega))) ?_;clear HF a;intro a HF
    refine wl_as HF rfl rfl rfl rfl rfl ?_;clear HF a;intro a HF
    refine wl_ne ?_
    replace HS:=Bx.mk (HS.out.pick 0 rfl)
    replace HS : Bx (St w0 (rdA rb ab n cb (B + 1 + 300 * (k + 1)) :: boxA b5 8 42 (rV dx4) :: boxA b2 1 34 (.agg #[.slice (some ⟨gR, 0, none⟩) 3 cR]) :: rowA HD.cells 3 94 (.slice (some ⟨gR, 0, none⟩) 3 cR) zs :: sepA (zs.map HD.asr) :: boxA b1 1 34 (.agg #[.slice none 0 0]) :: F) _) := ⟨HS.out.rdLe (by omega)⟩
    replace HS:=Bx.mk (((((HS.out.pick 5 rfl).pick 5 rfl).pick 5 rfl).pick 5 rfl).pick 4 rfl)
    exact ⟨k + 1, ⟨zs, ⟨by omega, hnz0⟩, HF.less _ ⟨rfl, rfl, rfl, (by show some (Value.int .i64 _) = some (Value.int .i64 _); exact congrArg (fun z => some (Value.int .i64 z)) (by omega)), trivial⟩, (HS.out.erase 5)⟩, (by omega)⟩
  ·clear HF; have HF := HF1; clear HF1
   have dcc2 := ne_of_beq_false cc2
   refine wc_false HF rfl ?_
   refine wp_skip ?_
   refine ex_then ?_
   refine wp_seq ?_
   obtain ⟨rn, hrn⟩ : ∃ r : Nat, dx4.fTxg % 4 = (r : Int) := ⟨(dx4.fTxg % 4).toNat, by omega⟩; rw [hrn] at HF; have hr4 : rn < 4 := by omega
   replace HF : Fr 95 a [(0, .pointer (some ⟨rb, 0, none⟩)), (2, .pointer (some ⟨b1, 0, none⟩)), (3, .pointer (some ⟨b2, 0, none⟩)), (4, .int .i64 ((dn3 : Int) - (k : Int))), (5, .pointer (some ⟨b5, 0, none⟩)), (6, .int .i64 (rn : Int))] := HF.less _ ⟨rfl, rfl, rfl, rfl, rfl, rfl, trivial⟩
   refine wp_region_lit ?_
   refine wl_y rfl HF rfl rfl (yl_loadR (cs := [.int .i64 dx4.fTxg, .int .i64 dx4.fMeta.fRoot.fAt, .int .i64 dx4.fMeta.fRoot.fBirth, .int .i64 dx4.fMeta.fRoot.fSize, .int .i64 dx4.fMeta.fRoot.fSum, .int .i64 dx4.fMeta.fRoot.fLevel, .int .i64 dx4.fMeta.fDepth, .int .i64 dx4.fMeta.fMany]) rfl (HF.ev rfl) ((HS.out.box 1 rfl).sub 0 8) (by kernel_rfl)) ?_;clear HF a;intro a HF
   refine wl_callB rfl HF rfl (enter_of Tryz.func32 (by kernel_rfl) rfl) (args := #[(rV dx4)]) rfl (v := .string (rootB dx4)) (specRootPut_any dx4 _) rfl rfl HS.out ?_; clear HF HS a; intro w16 a HS HF; replace HS := Bx.mk HS
   refine wl_as HF rfl rfl rfl rfl rfl ?_;clear HF a;intro a HF
   refine wl_ne ?_
   refine wp_sr ?_
   refine wl_as HF rfl rfl rfl rfl rfl ?_;clear HF a;intro a HF
   refine wl_ne ?_
   refine wp_block ?_
   replace HS:=Bx.mk (HS.out.pick 0 rfl)
   replace HS : Bx (St w0 (rdA rb ab n cb (B + 1 + 300 * k + 120 + 1 + 1 * 0) :: boxA b5 8 42 (rV dx4) :: boxA b2 1 34 (.agg #[.slice (some ⟨gR, 0, none⟩) 3 cR]) :: rowA HD.cells 3 94 (.slice (some ⟨gR, 0, none⟩) 3 cR) qs :: sepA (qs.map HD.asr) :: boxA b1 1 34 (.agg #[.slice none 0 0]) :: F) _) := ⟨HS.out.rdLe (by omega)⟩
   refine wc_loop (ι := Nat) (fun i a w => ∃ (zs : List HD), (i ≤ 3 ∧ niceS 0 (dsOf zs)) ∧ Fr 95 a [(0, .pointer (some ⟨rb, 0, none⟩)), (2, .pointer (some ⟨b1, 0, none⟩)), (3, .pointer (some ⟨b2, 0, none⟩)), (4, .int .i64 ((dn3 : Int) - (k : Int))), (6, .int .i64 (rn : Int)), (7, .string (rootB dx4)), (8, .int .i64 (i : Int))] ∧ St w0 (rdA rb ab n cb (B + 1 + 300 * k + 120 + 1 + 1 * i) :: boxA b5 8 42 (rV dx4) :: boxA b2 1 34 (.agg #[.slice (some ⟨gR, 0, none⟩) 3 cR]) :: rowA HD.cells 3 94 (.slice (some ⟨gR, 0, none⟩) 3 cR) zs :: sepA (zs.map HD.asr) :: boxA b1 1 34 (.agg #[.slice none 0 0]) :: F) w) (fun i => 3 - i) 0 ⟨qs, ⟨Nat.zero_le _, hni⟩, HF.less _ ⟨rfl, rfl, rfl, rfl, rfl, rfl, rfl, trivial⟩, HS.out⟩ ?_
   clear HF HS; clear a
   rintro i a w17 ⟨zs, ⟨hi3, hnz0⟩, HF, HS⟩
   replace HS := Bx.mk HS
   have hzl := hnz0.len
   refine wp_seq ?_
   refine wp_sr ?_
   refine wl_mv HF rfl rfl rfl rfl rfl ?_;clear HF a;intro a HF
   refine wl_y rfl HF rfl rfl (yl_lssI rfl (HF.ev rfl) (HF.ev rfl)) ?_;clear HF a;intro a HF
   refine wl_ne ?_
   refine HF.cases 31 rfl (fun cc6 HF1 => ?_) (fun cc6 HF1 => ?_)
   ·clear HF; have HF := HF1; clear HF1
    have dcc6 := of_decide_eq_true cc6
    refine wc_true HF rfl ?_
    refine wp_skip ?_
    refine ex_then ?_
    refine wp_seq ?_
    refine wp_block ?_
    refine wp_sr ?_
    refine wl_mv HF rfl rfl rfl rfl rfl ?_;clear HF a;intro a HF
    refine wl_y rfl HF rfl rfl (yl_geqI rfl (HF.ev rfl) (HF.ev rfl)) ?_;clear HF a;intro a HF
    refine wl_mv HF rfl rfl rfl rfl rfl ?_;clear HF a;intro a HF
    refine HF.cases 36 rfl (fun cc7 HF1 => ?_) (fun cc7 HF1 => ?_)
    ·clear HF; have HF := HF1; clear HF1
     have dcc7 := of_decide_eq_true cc7
     refine wl_yg HF rfl rfl rfl rfl rfl (yl_move rfl (HF.ev rfl)) ?_;clear HF a;intro a HF
     replace HS:=Bx.mk (HS.out.pick 0 rfl)
     refine wl_callg HF rfl rfl rfl rfl (enter_of Tryz.func94 (by kernel_rfl) rfl) (args := #[.pointer (some ⟨rb, 0, none⟩), .int .i64 4]) rfl (pickN w0 _ rb ab n cb bs hn hR (B + 1 + 300 * k + 120 + 1 + 1 * i) (by omega) 4 (by omega) _ HS.out) rfl rfl ?_
     rintro _ w18 ⟨dn10, rfl, hu10, hs1⟩
     refine ⟨_, rfl, ?_⟩; replace HS := Bx.mk hs1; clear hs1 HF; clear a; intro a HF
     replace HS : Bx (St w0 (rdA rb ab n cb (B + 1 + 300 * k + 120 + 1 + 1 * i + 1) :: boxA b5 8 42 (rV dx4) :: boxA b2 1 34 (.agg #[.slice (some ⟨gR, 0, none⟩) 3 cR]) :: rowA HD.cells 3 94 (.slice (some ⟨gR, 0, none⟩) 3 cR) zs :: sepA (zs.map HD.asr) :: boxA b1 1 34 (.agg #[.slice none 0 0]) :: F) _) := ⟨HS.out⟩
     refine wl_yg HF rfl rfl rfl rfl rfl (yl_gtrI rfl (HF.ev rfl) (HF.ev rfl)) ?_;clear HF a;intro a HF
     refine wl_y rfl HF rfl rfl (yl_pick_t rfl (HF.ev rfl) (HF.ev rfl)) ?_;clear HF a;intro a HF
     refine wl_ne ?_
     refine HF.cases 40 rfl (fun cc8 HF1 => ?_) (fun cc8 HF1 => ?_)
     ·clear HF; have HF := HF1; clear HF1
      have dcc8 := of_decide_eq_true cc8
      refine wc_true HF rfl ?_
      replace HS:=Bx.mk (HS.out.pick 4 rfl)
      replace HS := Bx.mk (HS.out.hdOut i (by omega))
      obtain ⟨⟨ya, yc, yb, ye, yd⟩, hy⟩ : ∃ q : HD, q = zs.getD i default := ⟨_, rfl⟩; rw [← hy] at HS
      have hny : yd.nice 0 := by have h := hnz0.get (k := i) (by omega); rw [← hy] at h; exact h
      have hyc := hny.c; replace HS := Bx.mk ((St.join (r := [_, _])).2 HS.out)
      replace HS : Bx (St w0 (rowA encS 1 9 (.slice ya yd.fCells.length yc) yd.fCells :: rowA WaitD.cells 2 137 (.slice yb yd.fWaits.length ye) yd.fWaits :: sepA ((zs.eraseIdx i).map HD.asr) :: rdA rb ab n cb (B + 1 + 300 * k + 120 + 1 + 1 * i + 1) :: boxA b5 8 42 (rV dx4) :: boxA b2 1 34 (.agg #[.slice (some ⟨gR, 0, none⟩) 3 cR]) :: rowA HD.cells 3 94 (.slice (some ⟨gR, 0, none⟩) 3 cR) zs :: boxA b1 1 34 (.agg #[.slice none 0 0]) :: F) _) := ⟨HS.out⟩
      obtain ⟨g11, rfl, _, _, _, _⟩ := HS.out.rowOpen 0 rfl (by omega)
      refine wp_region_lit ?_
      refine wl_y rfl HF rfl rfl (yl_fieldAddr (j := 0) rfl (HF.ev rfl) (by kernel_rfl)) ?_;clear HF a;intro a HF
      refine wl_y rfl HF rfl rfl (yl_load (v := .slice (some ⟨gR, 0, none⟩) 3 cR) rfl (HF.ev rfl) (((HS.out.box 5 rfl).cell 0).trans rfl) (by kernel_rfl)) ?_;clear HF a;intro a HF
      refine wl_mv HF rfl rfl rfl rfl rfl ?_;clear HF a;intro a HF
      refine wl_y rfl HF rfl rfl (yl_indexAddr (e := 94) (i := i) (size := 3) rfl (HF.ev rfl) (HF.ev rfl) (by kernel_rfl) rfl (by omega)) ?_;clear HF a;intro a HF
      refine wl_y rfl HF rfl rfl (yl_fieldAddr (j := 0) rfl (HF.ev rfl) (by kernel_rfl)) ?_;clear HF a;intro a HF
      refine wl_y rfl HF rfl rfl (yl_load (v := .slice (some ⟨g11, 0, none⟩) yd.fCells.length yc) rfl (HF.ev rfl) (HS.out.elem HD.cells_len 6 rfl ((get_getD (xs := zs) (j := i) (d := default) (by omega)).trans (congrArg some hy.symm)) 0 _ rfl) (by kernel_rfl)) ?_;clear HF a;intro a HF
      refine wl_mv HF rfl rfl rfl rfl rfl ?_;clear HF a;intro a HF
      refine wl_mv HF rfl rfl rfl rfl rfl ?_;clear HF a;intro a HF
      refine wl_y rfl HF rfl rfl (yl_indexAddr (e := 9) (i := rn) (size := 1) rfl (HF.ev rfl) (HF.ev rfl) (by kernel_rfl) rfl (by omega)) ?_;clear HF a;intro a HF
      refine wl_storeE encS_len rfl rfl rfl (HF.ev rfl) (HF.ev rfl) (by kernel_rfl) HS.out 0 rfl (by omega) (z := (rootB dx4)) rfl rfl ?_; clear HS; intro w19 HS; replace HS := Bx.mk HS
      refine wpList_nil ?_
      refine ex_block ?_
      refine ex_then ?_
      refine wp_region_lit ?_
      refine wl_mv HF rfl rfl rfl rfl rfl ?_;clear HF a;intro a HF
      refine wl_y rfl HF rfl rfl (yl_addI rfl (HF.ev rfl) (HF.ev rfl) (i64w (by omega))) ?_;clear HF a;intro a HF
      refine wl_as HF rfl rfl rfl rfl rfl ?_;clear HF a;intro a HF
      refine wl_ne ?_
      replace HS:=Bx.mk ((((HS.out.pick 2 rfl).pick 2 rfl).pick 2 rfl).pick 6 rfl)
      replace HS := Bx.mk (St.cellIn (q := (⟨some ⟨g11, 0, none⟩, yc, yb, ye, yd⟩ : HD)) (by omega) hy HS.out)
      replace HS : Bx (St w0 (rowA HD.cells 3 94 (.slice (some ⟨gR, 0, none⟩) 3 cR) (zs.set i ⟨some ⟨g11, 0, none⟩, yc, yb, ye, { yd with fCells := yd.fCells.set rn (rootB dx4) }⟩) :: sepA ((zs.set i ⟨some ⟨g11, 0, none⟩, yc, yb, ye, { yd with fCells := yd.fCells.set rn (rootB dx4) }⟩).map HD.asr) :: rdA rb ab n cb (B + 1 + 300 * k + 120 + 1 + 1 * i + 1) :: boxA b5 8 42 (rV dx4) :: boxA b2 1 34 (.agg #[.slice (some ⟨gR, 0, none⟩) 3 cR]) :: boxA b1 1 34 (.agg #[.slice none 0 0]) :: F) _) := ⟨HS.out⟩
      have hnz : niceS 0 (dsOf (zs.set i ⟨some ⟨g11, 0, none⟩, yc, yb, ye, { yd with fCells := yd.fCells.set rn (rootB dx4) }⟩)) := by rw [dsOf_set]; exact niceS_set hnz0 (nice_cell hny (Nat.le_trans (root_small _) (by decide)))
      replace HS:=Bx.mk (HS.out.pick 2 rfl)
      replace HS : Bx (St w0 (rdA rb ab n cb (B + 1 + 300 * k + 120 + 1 + 1 * (i + 1)) :: rowA HD.cells 3 94 (.slice (some ⟨gR, 0, none⟩) 3 cR) (zs.set i ⟨some ⟨g11, 0, none⟩, yc, yb, ye, { yd with fCells := yd.fCells.set rn (rootB dx4) }⟩) :: sepA ((zs.set i ⟨some ⟨g11, 0, none⟩, yc, yb, ye, { yd with fCells := yd.fCells.set rn (rootB dx4) }⟩).map HD.asr) :: boxA b5 8 42 (rV dx4) :: boxA b2 1 34 (.agg #[.slice (some ⟨gR, 0, none⟩) 3 cR]) :: boxA b1 1 34 (.agg #[.slice none 0 0]) :: F) _) := ⟨HS.out.rdLe (by omega)⟩
      replace HS:=Bx.mk ((((((HS.out.pick 5 rfl).pick 3 rfl).pick 3 rfl).pick 5 rfl).pick 5 rfl).pick 5 rfl)
      exact ⟨i + 1, ⟨zs.set i ⟨some ⟨g11, 0, none⟩, yc, yb, ye, { yd with fCells := yd.fCells.set rn (rootB dx4) }⟩, ⟨by omega, hnz⟩, HF.less _ ⟨rfl, rfl, rfl, rfl, rfl, rfl, rfl, trivial⟩, HS.out⟩, (by omega)⟩
     ·clear HF; have HF := HF1; clear HF1
      have dcc8 := of_decide_eq_false cc8
      refine wc_false HF rfl ?_
      refine wp_skip ?_
      refine ex_block ?_
      refine ex_then ?_
      refine wp_region_lit ?_
      refine wl_mv HF rfl rfl rfl rfl rfl ?_;clear HF a;intro a HF
      refine wl_y rfl HF rfl rfl (yl_addI rfl (HF.ev rfl) (HF.ev rfl) (i64w (by omega))) ?_;clear HF a;intro a HF
      refine wl_as HF rfl rfl rfl rfl rfl ?_;clear HF a;intro a HF
      refine wl_ne ?_
      replace HS:=Bx.mk (HS.out.pick 0 rfl)
      replace HS : Bx (St w0 (rdA rb ab n cb (B + 1 + 300 * k + 120 + 1 + 1 * (i + 1)) :: boxA b5 8 42 (rV dx4) :: boxA b2 1 34 (.agg #[.slice (some ⟨gR, 0, none⟩) 3 cR]) :: rowA HD.cells 3 94 (.slice (some ⟨gR, 0, none⟩) 3 cR) zs :: sepA (zs.map HD.asr) :: boxA b1 1 34 (.agg #[.slice none 0 0]) :: F) _) := ⟨HS.out.rdLe (by omega)⟩
      exact ⟨i + 1, ⟨zs, ⟨by omega, hnz0⟩, HF.less _ ⟨rfl, rfl, rfl, rfl, rfl, rfl, rfl, trivial⟩, HS.out⟩, (by omega)⟩
    ·clear HF; have HF := HF1; clear HF1
     have dcc7 := of_decide_eq_false cc7
     omega
   ·clear HF; have HF := HF1; clear HF1
    have dcc6 := of_decide_eq_false cc6
    refine wc_false HF rfl ?_
    refine wp_exit ?_
    refine ex_then_exit ?_
    refine ex_then_exit ?_
    refine ex_block_hit ?_
    refine ex_block ?_
    refine ex_then ?_
    refine wp_region_lit ?_
    refine wl_mv HF rfl rfl rfl rfl rfl ?_;clear HF a;intro a HF
    refine wl_y rfl HF rfl rfl (yl_subI rfl (HF.ev rfl) (HF.ev rfl) (i64w (by omega))) ?_;clear HF a;intro a HF
    refine wl_as HF rfl rfl rfl rfl rfl ?_;clear HF a;intro a HF
    refine wl_ne ?_
    replace HS:=Bx.mk (HS.out.pick 0 rfl)
    replace HS : Bx (St w0 (rdA rb ab n cb (B + 1 + 300 * (k + 1)) :: boxA b5 8 42 (rV dx4) :: boxA b2 1 34 (.agg #[.slice (some ⟨gR, 0, none⟩) 3 cR]) :: rowA HD.cells 3 94 (.slice (some ⟨gR, 0, none⟩) 3 cR) zs :: sepA (zs.map HD.asr) :: boxA b1 1 34 (.agg #[.slice none 0 0]) :: F) _) := ⟨HS.out.rdLe (by omega)⟩
    replace HS:=Bx.mk (((((HS.out.pick 5 rfl).pick 5 rfl).pick 5 rfl).pick 5 rfl).pick 4 rfl)
    exact ⟨k + 1, ⟨zs, ⟨by omega, hnz0⟩, HF.less _ ⟨rfl, rfl, rfl, (by show some (Value.int .i64 _) = some (Value.int .i64 _); exact congrArg (fun z => some (Value.int .i64 z)) (by omega)), trivial⟩, (HS.out.erase 5)⟩, (by omega)⟩
 ·clear HF; have HF := HF1; clear HF1
  have dcc1 := of_decide_eq_false cc1
  refine wc_false HF rfl ?_
  refine wp_exit ?_
  refine ex_then_exit ?_
  refine ex_then_exit ?_
  refine ex_block_hit ?_
  refine ex_then ?_
  refine wp_seq ?_
  refine wp_sr ?_
  refine wl_mv HF rfl rfl rfl rfl rfl ?_;clear HF a;intro a HF
  replace HS:=Bx.mk (HS.out.pick 0 rfl)
  refine wl_call rfl HF rfl (enter_of Tryz.func94 (by kernel_rfl) rfl) (args := #[.pointer (some ⟨rb, 0, none⟩), .int .i64 8]) rfl (pickN w0 _ rb ab n cb bs hn hR (B + 1 + 300 * k) (by omega) 8 (by omega) _ HS.out) rfl rfl ?_
  rintro _ w20 ⟨dn12, rfl, hu12, hs1⟩
  refine ⟨_, rfl, ?_⟩; replace HS := Bx.mk hs1; clear hs1 HF; clear a; intro a HF
  replace HS : Bx (St w0 (rdA rb ab n cb (B + 1 + 300 * k + 1) :: boxA b2 1 34 (.agg #[.slice (some ⟨gR, 0, none⟩) 3 cR]) :: rowA HD.cells 3 94 (.slice (some ⟨gR, 0, none⟩) 3 cR) qs :: sepA (qs.map HD.asr) :: boxA b1 1 34 (.agg #[.slice none 0 0]) :: F) _) := ⟨HS.out⟩
  refine wl_ne ?_
  refine wp_block ?_
  refine wp_sr ?_
  refine wl_y rfl HF rfl rfl (yl_eqlI rfl (HF.ev rfl) (HF.ev rfl)) ?_;clear HF a;intro a HF
  refine wl_as HF rfl rfl rfl rfl rfl ?_;clear HF a;intro a HF
  refine wl_ne ?_
  refine HF.cases 52 rfl (fun cc9 HF1 => ?_) (fun cc9 HF1 => ?_)
  ·clear HF; have HF := HF1; clear HF1
   have dcc9 := eq_of_beq cc9
   refine wc_true HF rfl ?_
   refine wr_marked (W := w0) (s := boxA b2 1 34 (.agg #[.slice (some ⟨gR, 0, none⟩) 3 cR]) :: rowA HD.cells 3 94 (.slice (some ⟨gR, 0, none⟩) 3 cR) qs :: sepA (qs.map HD.asr) :: boxA b1 1 34 (.agg #[.slice none 0 0]) :: F) 6 (by kernel_rfl) ?_
   have HS2 := Bx.mk HS.out.drew; replace HS := Bx.mk (show St w0 (boxA b2 1 34 (.agg #[.slice (some ⟨gR, 0, none⟩) 3 cR]) :: rowA HD.cells 3 94 (.slice (some ⟨gR, 0, none⟩) 3 cR) qs :: sepA (qs.map HD.asr) :: boxA b1 1 34 (.agg #[.slice none 0 0]) :: F) _ from (HS.out.drew.erase 0)); generalize World.drew _ = w21 at HS HS2 ⊢
   refine wm_t 0 rfl (by kernel_rfl) (by kernel_rfl) (by kernel_rfl) (fun _ _ _ h => h) (by decide) rfl HF rfl rfl (fun _ _ => (yl_fieldAddr (j := 0) rfl (HF.ev rfl) (by kernel_rfl))) (fun _ => HS.out) ?_;clear HF a;intro a HF
   refine wm_y 1 rfl (by kernel_rfl) (by kernel_rfl) (by kernel_rfl) (fun _ _ _ h => h) (by decide) (by kernel_rfl) (by kernel_rfl) rfl HF rfl rfl (fun _ HS => (yl_load (v := .slice (some ⟨gR, 0, none⟩) 3 cR) rfl (HF.ev rfl) (((HS.box 0 rfl).cell 0).trans rfl) (by kernel_rfl))) HS.out ?_;clear HF a;intro a HF
   refine wm_t 2 rfl (by kernel_rfl) (by kernel_rfl) (by kernel_rfl) (fun _ _ _ h => h) (by decide) rfl HF rfl rfl (fun _ _ => (yl_move rfl (HF.ev rfl))) (fun _ => HS.out) ?_;clear HF a;intro a HF
   refine wm_one 3 (by kernel_rfl) ?_
   replace HS2:=Bx.mk (HS2.out.pick 0 rfl)
   refine wo_call rfl rfl HF rfl (enter_of Tryz.func94 (by kernel_rfl) rfl) (args := #[.pointer (some ⟨rb, 0, none⟩), .int .i64 3]) rfl (pickN w0 _ rb ab n cb bs hn hR (B + 1 + 300 * k + 1) (by omega) 3 (by omega) _ HS2.out) rfl rfl ?_
   rintro _ w22 ⟨dn13, rfl, hu13, hs1⟩
   refine ⟨_, rfl, ?_⟩; replace HS2 := Bx.mk hs1; clear hs1 HF; clear a; intro a HF
   replace HS2 : Bx (St w0 (rdA rb ab n cb (B + 1 + 300 * k + 1 + 1) :: boxA b2 1 34 (.agg #[.slice (some ⟨gR, 0, none⟩) 3 cR]) :: rowA HD.cells 3 94 (.slice (some ⟨gR, 0, none⟩) 3 cR) qs :: sepA (qs.map HD.asr) :: boxA b1 1 34 (.agg #[.slice none 0 0]) :: F) _) := ⟨HS2.out⟩
   clear HS; have HS : Bx (St w0 (boxA b2 1 34 (.agg #[.slice (some ⟨gR, 0, none⟩) 3 cR]) :: rowA HD.cells 3 94 (.slice (some ⟨gR, 0, none⟩) 3 cR) qs :: sepA (qs.map HD.asr) :: boxA b1 1 34 (.agg #[.slice none 0 0]) :: F) _) := ⟨(HS2.out.erase 0)⟩
   refine ⟨fun _ => HS.out, ?_⟩
   refine wm_one 4 (by kernel_rfl) ?_
   refine wo_call rfl rfl HF rfl (enter_of Tryz.func95 (by kernel_rfl) rfl) (args := #[]) rfl (specLose_any _) rfl rfl ?_
   rintro _ w23 ⟨⟨qa14, qc14, qb14, qe14, qd⟩, hqd, rfl, hs⟩; obtain rfl : qd = lostD := hqd; refine ⟨_, rfl, ?_⟩
   replace HS := Bx.mk (HS.out.later hs.bel)
   replace HS2 := Bx.mk ((HS2.out.add hs)); clear hs HF; clear a; intro a HF
   replace HS2 : Bx (St w0 (HD.asr ⟨qa14, qc14, qb14, qe14, lostD⟩ :: rdA rb ab n cb (B + 1 + 300 * k + 1 + 1) :: boxA b2 1 34 (.agg #[.slice (some ⟨gR, 0, none⟩) 3 cR]) :: rowA HD.cells 3 94 (.slice (some ⟨gR, 0, none⟩) 3 cR) qs :: sepA (qs.map HD.asr) :: boxA b1 1 34 (.agg #[.slice none 0 0]) :: F) _) := ⟨HS2.out⟩
   refine ⟨fun _ => HS.out, ?_⟩
   refine wm_y 5 rfl (by kernel_rfl) (by kernel_rfl) (by kernel_rfl) (fun _ _ _ h => h) (by decide) (by kernel_rfl) (by kernel_rfl) rfl HF rfl rfl (fun _ HS => (yl_indexAddr (e := 94) (i := dn13) (size := 3) rfl (HF.ev rfl) (HF.ev rfl) (by kernel_rfl) rfl (by omega))) HS.out ?_;clear HF a;intro a HF
   refine wm_one 6 (by kernel_rfl) ?_
   refine wo_storeEn HD.cells_len rfl rfl rfl rfl (HF.ev rfl) (HF.ev rfl) (by kernel_rfl) HS2.out 3 rfl (by omega) (z := (⟨qa14, qc14, qb14, qe14, lostD⟩ : HD)) rfl (by first | rfl | simp [Value.oneCell']) ?_
   clear HS2; intro w24 HS2; replace HS2 : Bx (St w0 (HD.asr ⟨qa14, qc14, qb14, qe14, lostD⟩ :: rdA rb ab n cb (B + 1 + 300 * k + 1 + 1) :: boxA b2 1 34 (.agg #[.slice (some ⟨gR, 0, none⟩) 3 cR]) :: rowA HD.cells 3 94 (.slice (some ⟨gR, 0, none⟩) 3 cR) (qs.set dn13 (⟨qa14, qc14, qb14, qe14, lostD⟩ : HD)) :: sepA (qs.map HD.asr) :: boxA b1 1 34 (.agg #[.slice none 0 0]) :: F) _) := ⟨HS2⟩; refine ⟨(fun h => absurd (show true = false from h) (by decide)), ?_⟩
   refine wm_done (by kernel_rfl) ?_
   clear HS; have HS := HS2; clear HS2
   refine ex_block ?_
   refine ex_then ?_
   refine wp_sr ?_
   refine wl_y rfl HF rfl rfl (yl_loadR (cs := [.slice (some ⟨gR, 0, none⟩) 3 cR]) rfl (HF.ev rfl) ((HS.out.box 2 rfl).sub 0 1) (by kernel_rfl)) ?_;clear HF a;intro a HF
   refine wl_storeBox rfl HF rfl rfl (HF.ev rfl) (HF.ev rfl) HS.out 5 rfl (cells_lit [.slice (some ⟨gR, 0, none⟩) 3 cR] rfl rfl) (by kernel_rfl) ?_; clear HS; intro w25 HS; replace HS := Bx.mk HS
   have HS : Bx (St w0 (HD.asr ⟨qa14, qc14, qb14, qe14, lostD⟩ :: rdA rb ab n cb (B + 1 + 300 * k + 1 + 1) :: boxA b2 1 34 (.agg #[.slice (some ⟨gR, 0, none⟩) 3 cR]) :: rowA HD.cells 3 94 (.slice (some ⟨gR, 0, none⟩) 3 cR) (qs.set dn13 (⟨qa14, qc14, qb14, qe14, lostD⟩ : HD)) :: sepA (qs.map HD.asr) :: boxA b1 1 34 (.agg #[.slice (some ⟨gR, 0, none⟩) 3 cR]) :: F) _) := HS
   refine wl_ne ?_
   refine wp_ret ?_
   refine bp_ret1 HF Tryz.results49 (HF.resBox rfl (HS.out.box 5 rfl) (by kernel_rfl)) ?_
   replace HS:=Bx.mk (((HS.out.pick 0 rfl).pick 4 rfl).pick 4 rfl)
   replace HS := Bx.mk (St.swap (((St.join (r := [_, _])).1 ((HS.out.pick 1 rfl).pick 2 rfl)).hold (P := allP (qs.set dn13 (⟨qa14, qc14, qb14, qe14, lostD⟩ : HD))) (sep2 (fun w f h => HD.asr_reads1 h) (fun w f h => hds_allP h) (fun w h1 h2 => allP_set h2 h1))))
   have hfl : fitsL (qs.set dn13 (⟨qa14, qc14, qb14, qe14, lostD⟩ : HD)) := (niceS.fitsL hni (by omega)).set lost_fits _; have hxl : (qs.set dn13 (⟨qa14, qc14, qb14, qe14, lostD⟩ : HD)).length = 3 := by rw [List.length_set]; exact hni.len
   replace HS : Bx (St w0 (rowA HD.cells 3 94 (.slice (some ⟨gR, 0, none⟩) 3 cR) (qs.set dn13 (⟨qa14, qc14, qb14, qe14, lostD⟩ : HD)) :: holdsA (allP (qs.set dn13 (⟨qa14, qc14, qb14, qe14, lostD⟩ : HD))) :: rdA rb ab n cb (B + 1 + 300 * k + 1 + 1) :: boxA b2 1 34 (.agg #[.slice (some ⟨gR, 0, none⟩) 3 cR]) :: boxA b1 1 34 (.agg #[.slice (some ⟨gR, 0, none⟩) 3 cR]) :: F) _) := ⟨HS.out⟩
   replace HS:=Bx.mk (((HS.out.pick 2 rfl).pick 2 rfl).pick 2 rfl)
   have HT := (raid_hold (ps := qs.set dn13 (⟨qa14, qc14, qb14, qe14, lostD⟩ : HD)) hxl.symm HS.out).swap.rdLe (B' := B + 2500) (by omega)
   exact ⟨_, _, qs.set dn13 (⟨qa14, qc14, qb14, qe14, lostD⟩ : HD), by rw [hxl], hxl, hfl, ((HT.erase 3).erase 2)⟩
  ·clear HF; have HF := HF1; clear HF1
   have dcc9 := ne_of_beq_false cc9
   refine wc_false HF rfl ?_
   refine wp_sr ?_
   refine wl_y rfl HF rfl rfl (yl_eqlI rfl (HF.ev rfl) (HF.ev rfl)) ?_;clear HF a;intro a HF
   refine wl_as HF rfl rfl rfl rfl rfl ?_;clear HF a;intro a HF
   refine wl_ne ?_
   refine HF.cases 60 rfl (fun cc10 HF1 => ?_) (fun cc10 HF1 => ?_)
   ·clear HF; have HF := HF1; clear HF1
    have dcc10 := eq_of_beq cc10
    refine wc_true HF rfl ?_
    refine wp_sr ?_
    refine wl_mv HF rfl rfl rfl rfl rfl ?_;clear HF a;intro a HF
    replace HS:=Bx.mk (HS.out.pick 0 rfl)
    refine wl_call rfl HF rfl (enter_of Tryz.func94 (by kernel_rfl) rfl) (args := #[.pointer (some ⟨rb, 0, none⟩), .int .i64 3]) rfl (pickN w0 _ rb ab n cb bs hn hR (B + 1 + 300 * k + 1) (by omega) 3 (by omega) _ HS.out) rfl rfl ?_
    rintro _ w26 ⟨dn15, rfl, hu15, hs1⟩
    refine ⟨_, rfl, ?_⟩; replace HS := Bx.mk hs1; clear hs1 HF; clear a; intro a HF
    replace HS : Bx (St w0 (rdA rb ab n cb (B + 1 + 300 * k + 1 + 1) :: boxA b2 1 34 (.agg #[.slice (some ⟨gR, 0, none⟩) 3 cR]) :: rowA HD.cells 3 94 (.slice (some ⟨gR, 0, none⟩) 3 cR) qs :: sepA (qs.map HD.asr) :: boxA b1 1 34 (.agg #[.slice none 0 0]) :: F) _) := ⟨HS.out⟩
    refine wl_as HF rfl rfl rfl rfl rfl ?_;clear HF a;intro a HF
    refine wl_ne ?_
    refine wp_sr ?_
    refine wl_mv HF rfl rfl rfl rfl rfl ?_;clear HF a;intro a HF
    replace HS:=Bx.mk (HS.out.pick 0 rfl)
    refine wl_call rfl HF rfl (enter_of Tryz.func94 (by kernel_rfl) rfl) (args := #[.pointer (some ⟨rb, 0, none⟩), .int .i64 4]) rfl (pickN w0 _ rb ab n cb bs hn hR (B + 1 + 300 * k + 1 + 1) (by omega) 4 (by omega) _ HS.out) rfl rfl ?_
    rintro _ w27 ⟨dn16, rfl, hu16, hs1⟩
    refine ⟨_, rfl, ?_⟩; replace HS := Bx.mk hs1; clear hs1 HF; clear a; intro a HF
    replace HS : Bx (St w0 (rdA rb ab n cb (B + 1 + 300 * k + 1 + 1 + 1) :: boxA b2 1 34 (.agg #[.slice (some ⟨gR, 0, none⟩) 3 cR]) :: rowA HD.cells 3 94 (.slice (some ⟨gR, 0, none⟩) 3 cR) qs :: sepA (qs.map HD.asr) :: boxA b1 1 34 (.agg #[.slice none 0 0]) :: F) _) := ⟨HS.out⟩
    refine wl_as HF rfl rfl rfl rfl rfl ?_;clear HF a;intro a HF
    refine wl_ne ?_
    replace HS:=Bx.mk (HS.out.pick 3 rfl)
    replace HS := Bx.mk (HS.out.hdOut dn15 (by omega))
    obtain ⟨⟨ya, yc, yb, ye, yd⟩, hy⟩ : ∃ q : HD, q = qs.getD dn15 default := ⟨_, rfl⟩; rw [← hy] at HS
    have hny : yd.nice 0 := by have h := hni.get (k := dn15) (by omega); rw [← hy] at h; exact h
    have hyc := hny.c; replace HS := Bx.mk ((St.join (r := [_, _])).2 HS.out)
    replace HS : Bx (St w0 (rowA encS 1 9 (.slice ya yd.fCells.length yc) yd.fCells :: rowA WaitD.cells 2 137 (.slice yb yd.fWaits.length ye) yd.fWaits :: sepA ((qs.eraseIdx dn15).map HD.asr) :: rdA rb ab n cb (B + 1 + 300 * k + 1 + 1 + 1) :: boxA b2 1 34 (.agg #[.slice (some ⟨gR, 0, none⟩) 3 cR]) :: rowA HD.cells 3 94 (.slice (some ⟨gR, 0, none⟩) 3 cR) qs :: boxA b1 1 34 (.agg #[.slice none 0 0]) :: F) _) := ⟨HS.out⟩
    obtain ⟨g17, rfl, _, _, _, _⟩ := HS.out.rowOpen 0 rfl (by omega)
    have hzc := getD_le hny.z
    have hz1 := hzc dn16
    refine wr_marked (W := w0) (s := rowA encS 1 9 (.slice (some ⟨g17, 0, none⟩) yd.fCells.length yc) yd.fCells :: rowA WaitD.cells 2 137 (.slice yb yd.fWaits.length ye) yd.fWaits :: sepA ((qs.eraseIdx dn15).map HD.asr) :: boxA b2 1 34 (.agg #[.slice (some ⟨gR, 0, none⟩) 3 cR]) :: rowA HD.cells 3 94 (.slice (some ⟨gR, 0, none⟩) 3 cR) qs :: boxA b1 1 34 (.agg #[.slice none 0 0]) :: F) 19 (by kernel_rfl) ?_
    have HS2 := Bx.mk HS.out.drew; replace HS := Bx.mk (show St w0 (rowA encS 1 9 (.slice (some ⟨g17, 0, none⟩) yd.fCells.length yc) yd.fCells :: rowA WaitD.cells 2 137 (.slice yb yd.fWaits.length ye) yd.fWaits :: sepA ((qs.eraseIdx dn15).map HD.asr) :: boxA b2 1 34 (.agg #[.slice (some ⟨gR, 0, none⟩) 3 cR]) :: rowA HD.cells 3 94 (.slice (some ⟨gR, 0, none⟩) 3 cR) qs :: boxA b1 1 34 (.agg #[.slice none 0 0]) :: F) _ from (HS.out.drew.erase 3)); generalize World.drew _ = w28 at HS HS2 ⊢
    refine wm_t 0 rfl (by kernel_rfl) (by kernel_rfl) (by kernel_rfl) (fun _ _ _ h => h) (by decide) rfl HF rfl rfl (fun _ _ => (yl_fieldAddr (j := 0) rfl (HF.ev rfl) (by kernel_rfl))) (fun _ => HS.out) ?_;clear HF a;intro a HF
    refine wm_y 1 rfl (by kernel_rfl) (by kernel_rfl) (by kernel_rfl) (fun _ _ _ h => h) (by decide) (by kernel_rfl) (by kernel_rfl) rfl HF rfl rfl (fun _ HS => (yl_load (v := .slice (some ⟨gR, 0, none⟩) 3 cR) rfl (HF.ev rfl) (((HS.box 3 rfl).cell 0).trans rfl) (by kernel_rfl))) HS.out ?_;clear HF a;intro a HF
    refine wm_t 2 rfl (by kernel_rfl) (by kernel_rfl) (by kernel_rfl) (fun _ _ _ h => h) (by decide) rfl HF rfl rfl (fun _ _ => (yl_move rfl (HF.ev rfl))) (fun _ => HS.out) ?_;clear HF a;intro a HF
    refine wm_y 3 rfl (by kernel_rfl) (by kernel_rfl) (by kernel_rfl) (fun _ _ _ h => h) (by decide) (by kernel_rfl) (by kernel_rfl) rfl HF rfl rfl (fun _ HS => (yl_indexAddr (e := 94) (i := dn15) (size := 3) rfl (HF.ev rfl) (HF.ev rfl) (by kernel_rfl) rfl (by omega))) HS.out ?_;clear HF a;intro a HF
    refine wm_t 4 rfl (by kernel_rfl) (by kernel_rfl) (by kernel_rfl) (fun _ _ _ h => h) (by decide) rfl HF rfl rfl (fun _ _ => (yl_fieldAddr (j := 0) rfl (HF.ev rfl) (by kernel_rfl))) (fun _ => HS.out) ?_;clear HF a;intro a HF
    refine wm_y 5 rfl (by kernel_rfl) (by kernel_rfl) (by kernel_rfl) (fun _ _ _ h => h) (by decide) (by kernel_rfl) (by kernel_rfl) rfl HF rfl rfl (fun _ HS => (yl_load (v := .slice (some ⟨g17, 0, none⟩) yd.fCells.length yc) rfl (HF.ev rfl) (HS.elem HD.cells_len 4 rfl ((get_getD (xs := qs) (j := dn15) (d := default) (by omega)).trans (congrArg some hy.symm)) 0 _ rfl) (by kernel_rfl))) HS.out ?_;clear HF a;intro a HF
    refine wm_t 6 rfl (by kernel_rfl) (by kernel_rfl) (by kernel_rfl) (fun _ _ _ h => h) (by decide) rfl HF rfl rfl (fun _ _ => (yl_move rfl (HF.ev rfl))) (fun _ => HS.out) ?_;clear HF a;intro a HF
    refine wm_t 7 rfl (by kernel_rfl) (by kernel_rfl) (by kernel_rfl) (fun _ _ _ h => h) (by decide) rfl HF rfl rfl (fun _ _ => (yl_move rfl (HF.ev rfl))) (fun _ => HS.out) ?_;clear HF a;intro a HF
    refine wm_t 8 rfl (by kernel_rfl) (by kernel_rfl) (by kernel_rfl) (fun _ _ _ h => h) (by decide) rfl HF rfl rfl (fun _ _ => (yl_fieldAddr (j := 0) rfl (HF.ev rfl) (by kernel_rfl))) (fun _ => HS.out) ?_;clear HF a;intro a HF
    refine wm_y 9 rfl (by kernel_rfl) (by kernel_rfl) (by kernel_rfl) (fun _ _ _ h => h) (by decide) (by kernel_rfl) (by kernel_rfl) rfl HF rfl rfl (fun _ HS => (yl_load (v := .slice (some ⟨gR, 0, none⟩) 3 cR) rfl (HF.ev rfl) (((HS.box 3 rfl).cell 0).trans rfl) (by kernel_rfl))) HS.out ?_;clear HF a;intro a HF
    refine wm_t 10 rfl (by kernel_rfl) (by kernel_rfl) (by kernel_rfl) (fun _ _ _ h => h) (by decide) rfl HF rfl rfl (fun _ _ => (yl_move rfl (HF.ev rfl))) (fun _ => HS.out) ?_;clear HF a;intro a HF
    refine wm_y 11 rfl (by kernel_rfl) (by kernel_rfl) (by kernel_rfl) (fun _ _ _ h => h) (by decide) (by kernel_rfl) (by kernel_rfl) rfl HF rfl rfl (fun _ HS => (yl_indexAddr (e := 94) (i := dn15) (size := 3) rfl (HF.ev rfl) (HF.ev rfl) (by kernel_rfl) rfl (by omega))) HS.out ?_;clear HF a;intro a HF
    refine wm_t 12 rfl (by kernel_rfl) (by kernel_rfl) (by kernel_rfl) (fun _ _ _ h => h) (by decide) rfl HF rfl rfl (fun _ _ => (yl_fieldAddr (j := 0) rfl (HF.ev rfl) (by kernel_rfl))) (fun _ => HS.out) ?_;clear HF a;intro a HF
    refine wm_y 13 rfl (by kernel_rfl) (by kernel_rfl) (by kernel_rfl) (fun _ _ _ h => h) (by decide) (by kernel_rfl) (by kernel_rfl) rfl HF rfl rfl (fun _ HS => (yl_load (v := .slice (some ⟨g17, 0, none⟩) yd.fCells.length yc) rfl (HF.ev rfl) (HS.elem HD.cells_len 4 rfl ((get_getD (xs := qs) (j := dn15) (d := default) (by omega)).trans (congrArg some hy.symm)) 0 _ rfl) (by kernel_rfl))) HS.out ?_;clear HF a;intro a HF
    refine wm_t 14 rfl (by kernel_rfl) (by kernel_rfl) (by kernel_rfl) (fun _ _ _ h => h) (by decide) rfl HF rfl rfl (fun _ _ => (yl_move rfl (HF.ev rfl))) (fun _ => HS.out) ?_;clear HF a;intro a HF
    refine wm_y 15 rfl (by kernel_rfl) (by kernel_rfl) (by kernel_rfl) (fun _ _ _ h => h) (by decide) (by kernel_rfl) (by kernel_rfl) rfl HF rfl rfl (fun _ HS => (yl_indexAddr (e := 9) (i := dn16) (size := 1) rfl (HF.ev rfl) (HF.ev rfl) (by kernel_rfl) rfl (by omega))) HS.out ?_;clear HF a;intro a HF
    refine wm_y 16 rfl (by kernel_rfl) (by kernel_rfl) (by kernel_rfl) (fun _ _ _ h => h) (by decide) (by kernel_rfl) (by kernel_rfl) rfl HF rfl rfl (fun _ HS => (yl_load (v := .string (yd.fCells.getD dn16 ByteArray.empty)) rfl (HF.ev rfl) (HS.elem1 encS_len 0 rfl (get_getD (xs := yd.fCells) (j := dn16) (d := ByteArray.empty) (by omega)) rfl) (by kernel_rfl))) HS.out ?_;clear HF a;intro a HF
    refine wm_one 17 (by kernel_rfl) ?_
    replace HS2:=Bx.mk (HS2.out.pick 3 rfl)
    refine wo_call rfl rfl HF rfl (enter_of Tryz.func96 (by kernel_rfl) rfl) (args := #[.pointer (some ⟨rb, 0, none⟩), .string (yd.fCells.getD dn16 ByteArray.empty)]) rfl (l91Spoil_any w0 _ rb ab n cb bs hn hR (B + 1 + 300 * k + 1 + 1 + 1) (by omega) (yd.fCells.getD dn16 ByteArray.empty) (by omega) _ HS2.out) rfl rfl ?_
    rintro _ w29 ⟨dt18, rfl, ht18, hs1⟩
    refine ⟨_, rfl, ?_⟩; replace HS2 := Bx.mk hs1; clear hs1 HF; clear a; intro a HF
    replace HS2 : Bx (St w0 (rdA rb ab n cb (B + 1 + 300 * k + 1 + 1 + 1 + 20) :: rowA encS 1 9 (.slice (some ⟨g17, 0, none⟩) yd.fCells.length yc) yd.fCells :: rowA WaitD.cells 2 137 (.slice yb yd.fWaits.length ye) yd.fWaits :: sepA ((qs.eraseIdx dn15).map HD.asr) :: boxA b2 1 34 (.agg #[.slice (some ⟨gR, 0, none⟩) 3 cR]) :: rowA HD.cells 3 94 (.slice (some ⟨gR, 0, none⟩) 3 cR) qs :: boxA b1 1 34 (.agg #[.slice none 0 0]) :: F) _) := ⟨HS2.out⟩
    clear HS; have HS : Bx (St w0 (rowA encS 1 9 (.slice (some ⟨g17, 0, none⟩) yd.fCells.length yc) yd.fCells :: rowA WaitD.cells 2 137 (.slice yb yd.fWaits.length ye) yd.fWaits :: sepA ((qs.eraseIdx dn15).map HD.asr) :: boxA b2 1 34 (.agg #[.slice (some ⟨gR, 0, none⟩) 3 cR]) :: rowA HD.cells 3 94 (.slice (some ⟨gR, 0, none⟩) 3 cR) qs :: boxA b1 1 34 (.agg #[.slice none 0 0]) :: F) _) := ⟨(HS2.out.erase 0)⟩
    refine ⟨fun _ => HS.out, ?_⟩
    refine wm_y 18 rfl (by kernel_rfl) (by kernel_rfl) (by kernel_rfl) (fun _ _ _ h => h) (by decide) (by kernel_rfl) (by kernel_rfl) rfl HF rfl rfl (fun _ HS => (yl_indexAddr (e := 9) (i := dn16) (size := 1) rfl (HF.ev rfl) (HF.ev rfl) (by kernel_rfl) rfl (by omega))) HS.out ?_;clear HF a;intro a HF
    refine wm_one 19 (by kernel_rfl) ?_
    refine wo_storeE encS_len rfl rfl rfl rfl (HF.ev rfl) (HF.ev rfl) (by kernel_rfl) HS2.out 1 rfl (by omega) (z := dt18) rfl rfl ?_
    clear HS2; intro w30 HS2; replace HS2 : Bx (St w0 (rdA rb ab n cb (B + 1 + 300 * k + 1 + 1 + 1 + 20) :: rowA encS 1 9 (.slice (some ⟨g17, 0, none⟩) yd.fCells.length yc) (yd.fCells.set dn16 dt18) :: rowA WaitD.cells 2 137 (.slice yb yd.fWaits.length ye) yd.fWaits :: sepA ((qs.eraseIdx dn15).map HD.asr) :: boxA b2 1 34 (.agg #[.slice (some ⟨gR, 0, none⟩) 3 cR]) :: rowA HD.cells 3 94 (.slice (some ⟨gR, 0, none⟩) 3 cR) qs :: boxA b1 1 34 (.agg #[.slice none 0 0]) :: F) _) := ⟨HS2⟩; refine ⟨(fun h => absurd (show true = false from h) (by decide)), ?_⟩
    refine wm_done (by kernel_rfl) ?_
    clear HS; have HS := HS2; clear HS2
    refine ex_block ?_
    refine ex_then ?_
    refine wp_sr ?_
    refine wl_y rfl HF rfl rfl (yl_loadR (cs := [.slice (some ⟨gR, 0, none⟩) 3 cR]) rfl (HF.ev rfl) ((HS.out.box 4 rfl).sub 0 1) (by kernel_rfl)) ?_;clear HF a;intro a HF
    refine wl_storeBox rfl HF rfl rfl (HF.ev rfl) (HF.ev rfl) HS.out 6 rfl (cells_lit [.slice (some ⟨gR, 0, none⟩) 3 cR] rfl rfl) (by kernel_rfl) ?_; clear HS; intro w31 HS; replace HS := Bx.mk HS
    have HS : Bx (St w0 (rdA rb ab n cb (B + 1 + 300 * k + 1 + 1 + 1 + 20) :: rowA encS 1 9 (.slice (some ⟨g17, 0, none⟩) yd.fCells.length yc) (yd.fCells.set dn16 dt18) :: rowA WaitD.cells 2 137 (.slice yb yd.fWaits.length ye) yd.fWaits :: sepA ((qs.eraseIdx dn15).map HD.asr) :: boxA b2 1 34 (.agg #[.slice (some ⟨gR, 0, none⟩) 3 cR]) :: rowA HD.cells 3 94 (.slice (some ⟨gR, 0, none⟩) 3 cR) qs :: boxA b1 1 34 (.agg #[.slice (some ⟨gR, 0, none⟩) 3 cR]) :: F) _) := HS
    refine wl_ne ?_
    refine wp_ret ?_
    refine bp_ret1 HF Tryz.results49 (HF.resBox rfl (HS.out.box 6 rfl) (by kernel_rfl)) ?_
    replace HS:=Bx.mk ((((HS.out.pick 3 rfl).pick 3 rfl).pick 3 rfl).pick 5 rfl)
    replace HS := Bx.mk (St.cellIn (q := (⟨some ⟨g17, 0, none⟩, yc, yb, ye, yd⟩ : HD)) (by omega) hy HS.out)
    replace HS : Bx (St w0 (rowA HD.cells 3 94 (.slice (some ⟨gR, 0, none⟩) 3 cR) (qs.set dn15 ⟨some ⟨g17, 0, none⟩, yc, yb, ye, { yd with fCells := yd.fCells.set dn16 dt18 }⟩) :: sepA ((qs.set dn15 ⟨some ⟨g17, 0, none⟩, yc, yb, ye, { yd with fCells := yd.fCells.set dn16 dt18 }⟩).map HD.asr) :: rdA rb ab n cb (B + 1 + 300 * k + 1 + 1 + 1 + 20) :: boxA b2 1 34 (.agg #[.slice (some ⟨gR, 0, none⟩) 3 cR]) :: boxA b1 1 34 (.agg #[.slice (some ⟨gR, 0, none⟩) 3 cR]) :: F) _) := ⟨HS.out⟩
    replace HS:=Bx.mk ((HS.out.pick 0 rfl).pick 1 rfl)
    replace HS := Bx.mk (St.swap (HS.out.hold (P := allP (qs.set dn15 ⟨some ⟨g17, 0, none⟩, yc, yb, ye, { yd with fCells := yd.fCells.set dn16 dt18 }⟩)) (fun w f h => hds_allP h)))
    have hfl : fitsL (qs.set dn15 ⟨some ⟨g17, 0, none⟩, yc, yb, ye, { yd with fCells := yd.fCells.set dn16 dt18 }⟩) := (niceS.fitsL hni (by omega)).set (fits_cell hny (by omega) (by omega)) _; have hxl : (qs.set dn15 ⟨some ⟨g17, 0, none⟩, yc, yb, ye, { yd with fCells := yd.fCells.set dn16 dt18 }⟩).length = 3 := by rw [List.length_set]; exact hni.len
    replace HS : Bx (St w0 (rowA HD.cells 3 94 (.slice (some ⟨gR, 0, none⟩) 3 cR) (qs.set dn15 ⟨some ⟨g17, 0, none⟩, yc, yb, ye, { yd with fCells := yd.fCells.set dn16 dt18 }⟩) :: holdsA (allP (qs.set dn15 ⟨some ⟨g17, 0, none⟩, yc, yb, ye, { yd with fCells := yd.fCells.set dn16 dt18 }⟩)) :: rdA rb ab n cb (B + 1 + 300 * k + 1 + 1 + 1 + 20) :: boxA b2 1 34 (.agg #[.slice (some ⟨gR, 0, none⟩) 3 cR]) :: boxA b1 1 34 (.agg #[.slice (some ⟨gR, 0, none⟩) 3 cR]) :: F) _) := ⟨HS.out⟩
    replace HS:=Bx.mk (((HS.out.pick 2 rfl).pick 2 rfl).pick 2 rfl)
    have HT := (raid_hold (ps := qs.set dn15 ⟨some ⟨g17, 0, none⟩, yc, yb, ye, { yd with fCells := yd.fCells.set dn16 dt18 }⟩) hxl.symm HS.out).swap.rdLe (B' := B + 2500) (by omega)
    exact ⟨_, _, qs.set dn15 ⟨some ⟨g17, 0, none⟩, yc, yb, ye, { yd with fCells := yd.fCells.set dn16 dt18 }⟩, by rw [hxl], hxl, hfl, ((HT.erase 3).erase 2)⟩
   ·clear HF; have HF := HF1; clear HF1
    have dcc10 := ne_of_beq_false cc10
    refine wc_false HF rfl ?_
    refine wp_sr ?_
    refine wl_y rfl HF rfl rfl (yl_eqlI rfl (HF.ev rfl) (HF.ev rfl)) ?_;clear HF a;intro a HF
    refine wl_as HF rfl rfl rfl rfl rfl ?_;clear HF a;intro a HF
    refine wl_ne ?_
    refine HF.cases 85 rfl (fun cc11 HF1 => ?_) (fun cc11 HF1 => ?_)
    ·clear HF; have HF := HF1; clear HF1
     have dcc11 := eq_of_beq cc11
     refine wc_true HF rfl ?_
     refine wr_marked (W := w0) (s := boxA b2 1 34 (.agg #[.slice (some ⟨gR, 0, none⟩) 3 cR]) :: rowA HD.cells 3 94 (.slice (some ⟨gR, 0, none⟩) 3 cR) qs :: sepA (qs.map HD.asr) :: boxA b1 1 34 (.agg #[.slice none 0 0]) :: F) 7 (by kernel_rfl) ?_
     have HS2 := Bx.mk HS.out.drew; replace HS := Bx.mk (show St w0 (boxA b2 1 34 (.agg #[.slice (some ⟨gR, 0, none⟩) 3 cR]) :: rowA HD.cells 3 94 (.slice (some ⟨gR, 0, none⟩) 3 cR) qs :: sepA (qs.map HD.asr) :: boxA b1 1 34 (.agg #[.slice none 0 0]) :: F) _ from (HS.out.drew.erase 0)); generalize World.drew _ = w32 at HS HS2 ⊢
     refine wm_t 0 rfl (by kernel_rfl) (by kernel_rfl) (by kernel_rfl) (fun _ _ _ h => h) (by decide) rfl HF rfl rfl (fun _ _ => (yl_fieldAddr (j := 0) rfl (HF.ev rfl) (by kernel_rfl))) (fun _ => HS.out) ?_;clear HF a;intro a HF
     refine wm_y 1 rfl (by kernel_rfl) (by kernel_rfl) (by kernel_rfl) (fun _ _ _ h => h) (by decide) (by kernel_rfl) (by kernel_rfl) rfl HF rfl rfl (fun _ HS => (yl_load (v := .slice (some ⟨gR, 0, none⟩) 3 cR) rfl (HF.ev rfl) (((HS.box 0 rfl).cell 0).trans rfl) (by kernel_rfl))) HS.out ?_;clear HF a;intro a HF
     refine wm_t 2 rfl (by kernel_rfl) (by kernel_rfl) (by kernel_rfl) (fun _ _ _ h => h) (by decide) rfl HF rfl rfl (fun _ _ => (yl_move rfl (HF.ev rfl))) (fun _ => HS.out) ?_;clear HF a;intro a HF
     refine wm_t 4 rfl (by kernel_rfl) (by kernel_rfl) (by kernel_rfl) (fun _ _ _ h => h) (by decide) rfl HF rfl rfl (fun _ _ => (yl_move rfl (HF.ev rfl))) (fun _ => HS.out) ?_;clear HF a;intro a HF
     refine wm_one 3 (by kernel_rfl) ?_
     replace HS2:=Bx.mk (HS2.out.pick 0 rfl)
     refine wo_call rfl rfl HF rfl (enter_of Tryz.func94 (by kernel_rfl) rfl) (args := #[.pointer (some ⟨rb, 0, none⟩), .int .i64 3]) rfl (pickN w0 _ rb ab n cb bs hn hR (B + 1 + 300 * k + 1) (by omega) 3 (by omega) _ HS2.out) rfl rfl ?_
     rintro _ w33 ⟨dn19, rfl, hu19, hs1⟩
     refine ⟨_, rfl, ?_⟩; replace HS2 := Bx.mk hs1; clear hs1 HF; clear a; intro a HF
     replace HS2 : Bx (St w0 (rdA rb ab n cb (B + 1 + 300 * k + 1 + 1) :: boxA b2 1 34 (.agg #[.slice (some ⟨gR, 0, none⟩) 3 cR]) :: rowA HD.cells 3 94 (.slice (some ⟨gR, 0, none⟩) 3 cR) qs :: sepA (qs.map HD.asr) :: boxA b1 1 34 (.agg #[.slice none 0 0]) :: F) _) := ⟨HS2.out⟩
     clear HS; have HS : Bx (St w0 (boxA b2 1 34 (.agg #[.slice (some ⟨gR, 0, none⟩) 3 cR]) :: rowA HD.cells 3 94 (.slice (some ⟨gR, 0, none⟩) 3 cR) qs :: sepA (qs.map HD.asr) :: boxA b1 1 34 (.agg #[.slice none 0 0]) :: F) _) := ⟨(HS2.out.erase 0)⟩
     refine ⟨fun _ => HS.out, ?_⟩
     refine wm_one 5 (by kernel_rfl) ?_
     replace HS2:=Bx.mk (HS2.out.pick 0 rfl)
     refine wo_call rfl rfl HF rfl (enter_of Tryz.func97 (by kernel_rfl) rfl) (args := #[.pointer (some ⟨rb, 0, none⟩)]) rfl (l91Disk_any w0 _ rb ab n cb bs hn hR (B + 1 + 300 * k + 1 + 1) (by omega) _ HS2.out) rfl rfl ?_
     rintro _ w34 ⟨q2, hq2f, rfl, hs1⟩
     refine ⟨_, rfl, ?_⟩; replace HS2 := Bx.mk hs1; clear hs1 HF; clear a; intro a HF
     replace HS2 : Bx (St w0 (rdA rb ab n cb (B + 1 + 300 * k + 1 + 1 + 500) :: holdsA (fun w => HD.reads w q2) :: boxA b2 1 34 (.agg #[.slice (some ⟨gR, 0, none⟩) 3 cR]) :: rowA HD.cells 3 94 (.slice (some ⟨gR, 0, none⟩) 3 cR) qs :: sepA (qs.map HD.asr) :: boxA b1 1 34 (.agg #[.slice none 0 0]) :: F) _) := ⟨HS2.out⟩
     clear HS; have HS : Bx (St w0 (boxA b2 1 34 (.agg #[.slice (some ⟨gR, 0, none⟩) 3 cR]) :: rowA HD.cells 3 94 (.slice (some ⟨gR, 0, none⟩) 3 cR) qs :: sepA (qs.map HD.asr) :: boxA b1 1 34 (.agg #[.slice none 0 0]) :: F) _) := ⟨((HS2.out.erase 1).erase 0)⟩
     refine ⟨fun _ => HS.out, ?_⟩
     refine wm_y 6 rfl (by kernel_rfl) (by kernel_rfl) (by kernel_rfl) (fun _ _ _ h => h) (by decide) (by kernel_rfl) (by kernel_rfl) rfl HF rfl rfl (fun _ HS => (yl_indexAddr (e := 94) (i := dn19) (size := 3) rfl (HF.ev rfl) (HF.ev rfl) (by kernel_rfl) rfl (by omega))) HS.out ?_;clear HF a;intro a HF
     refine wm_one 7 (by kernel_rfl) ?_
     refine wo_storeEn HD.cells_len rfl rfl rfl rfl (HF.ev rfl) (HF.ev rfl) (by kernel_rfl) HS2.out 3 rfl (by omega) (z := q2) rfl (by first | rfl | simp [Value.oneCell']) ?_
     clear HS2; intro w35 HS2; replace HS2 : Bx (St w0 (rdA rb ab n cb (B + 1 + 300 * k + 1 + 1 + 500) :: holdsA (fun w => HD.reads w q2) :: boxA b2 1 34 (.agg #[.slice (some ⟨gR, 0, none⟩) 3 cR]) :: rowA HD.cells 3 94 (.slice (some ⟨gR, 0, none⟩) 3 cR) (qs.set dn19 q2) :: sepA (qs.map HD.asr) :: boxA b1 1 34 (.agg #[.slice none 0 0]) :: F) _) := ⟨HS2⟩; refine ⟨(fun h => absurd (show true = false from h) (by decide)), ?_⟩
     refine wm_done (by kernel_rfl) ?_
     clear HS; have HS := HS2; clear HS2
     refine ex_block ?_
     refine ex_then ?_
     refine wp_sr ?_
     refine wl_y rfl HF rfl rfl (yl_loadR (cs := [.slice (some ⟨gR, 0, none⟩) 3 cR]) rfl (HF.ev rfl) ((HS.out.box 2 rfl).sub 0 1) (by kernel_rfl)) ?_;clear HF a;intro a HF
     refine wl_storeBox rfl HF rfl rfl (HF.ev rfl) (HF.ev rfl) HS.out 5 rfl (cells_lit [.slice (some ⟨gR, 0, none⟩) 3 cR] rfl rfl) (by kernel_rfl) ?_; clear HS; intro w36 HS; replace HS := Bx.mk HS
     have HS : Bx (St w0 (rdA rb ab n cb (B + 1 + 300 * k + 1 + 1 + 500) :: holdsA (fun w => HD.reads w q2) :: boxA b2 1 34 (.agg #[.slice (some ⟨gR, 0, none⟩) 3 cR]) :: rowA HD.cells 3 94 (.slice (some ⟨gR, 0, none⟩) 3 cR) (qs.set dn19 q2) :: sepA (qs.map HD.asr) :: boxA b1 1 34 (.agg #[.slice (some ⟨gR, 0, none⟩) 3 cR]) :: F) _) := HS
     refine wl_ne ?_
     refine wp_ret ?_
     refine bp_ret1 HF Tryz.results49 (HF.resBox rfl (HS.out.box 5 rfl) (by kernel_rfl)) ?_
     replace HS:=Bx.mk (((HS.out.pick 1 rfl).pick 4 rfl).pick 4 rfl)
     replace HS := Bx.mk (St.swap (((St.join (r := [_, _])).1 ((HS.out.pick 1 rfl).pick 2 rfl)).hold (P := allP (qs.set dn19 q2)) (sep2 holds_P (fun w f h => hds_allP h) (fun w h1 h2 => allP_set h2 h1))))
     have hfl : fitsL (qs.set dn19 q2) := (niceS.fitsL hni (by omega)).set hq2f _; have hxl : (qs.set dn19 q2).length = 3 := by rw [List.length_set]; exact hni.len
     replace HS : Bx (St w0 (rowA HD.cells 3 94 (.slice (some ⟨gR, 0, none⟩) 3 cR) (qs.set dn19 q2) :: holdsA (allP (qs.set dn19 q2)) :: rdA rb ab n cb (B + 1 + 300 * k + 1 + 1 + 500) :: boxA b2 1 34 (.agg #[.slice (some ⟨gR, 0, none⟩) 3 cR]) :: boxA b1 1 34 (.agg #[.slice (some ⟨gR, 0, none⟩) 3 cR]) :: F) _) := ⟨HS.out⟩
     replace HS:=Bx.mk (((HS.out.pick 2 rfl).pick 2 rfl).pick 2 rfl)
     have HT := (raid_hold (ps := qs.set dn19 q2) hxl.symm HS.out).swap.rdLe (B' := B + 2500) (by omega)
     exact ⟨_, _, qs.set dn19 q2, by rw [hxl], hxl, hfl, ((HT.erase 3).erase 2)⟩
    ·clear HF; have HF := HF1; clear HF1
     have dcc11 := ne_of_beq_false cc11
     refine wc_false HF rfl ?_
     refine wp_skip ?_
     refine ex_block ?_
     refine ex_then ?_
     refine wp_sr ?_
     refine wl_y rfl HF rfl rfl (yl_loadR (cs := [.slice (some ⟨gR, 0, none⟩) 3 cR]) rfl (HF.ev rfl) ((HS.out.box 1 rfl).sub 0 1) (by kernel_rfl)) ?_;clear HF a;intro a HF
     refine wl_storeBox rfl HF rfl rfl (HF.ev rfl) (HF.ev rfl) HS.out 4 rfl (cells_lit [.slice (some ⟨gR, 0, none⟩) 3 cR] rfl rfl) (by kernel_rfl) ?_; clear HS; intro w37 HS; replace HS := Bx.mk HS
     have HS : Bx (St w0 (rdA rb ab n cb (B + 1 + 300 * k + 1) :: boxA b2 1 34 (.agg #[.slice (some ⟨gR, 0, none⟩) 3 cR]) :: rowA HD.cells 3 94 (.slice (some ⟨gR, 0, none⟩) 3 cR) qs :: sepA (qs.map HD.asr) :: boxA b1 1 34 (.agg #[.slice (some ⟨gR, 0, none⟩) 3 cR]) :: F) _) := HS
     refine wl_ne ?_
     refine wp_ret ?_
     refine bp_ret1 HF Tryz.results49 (HF.resBox rfl (HS.out.box 4 rfl) (by kernel_rfl)) ?_
     replace HS:=Bx.mk ((HS.out.pick 2 rfl).pick 3 rfl)
     replace HS := Bx.mk (St.swap (HS.out.hold (P := allP (qs)) (fun w f h => hds_allP h)))
     have hfl : fitsL (qs) := niceS.fitsL hni (by omega); have hxl : (qs).length = 3 := hni.len
     replace HS : Bx (St w0 (rowA HD.cells 3 94 (.slice (some ⟨gR, 0, none⟩) 3 cR) qs :: holdsA (allP (qs)) :: rdA rb ab n cb (B + 1 + 300 * k + 1) :: boxA b2 1 34 (.agg #[.slice (some ⟨gR, 0, none⟩) 3 cR]) :: boxA b1 1 34 (.agg #[.slice (some ⟨gR, 0, none⟩) 3 cR]) :: F) _) := ⟨HS.out⟩
     replace HS:=Bx.mk (((HS.out.pick 2 rfl).pick 2 rfl).pick 2 rfl)
     have HT := (raid_hold (ps := qs) hxl.symm HS.out).swap.rdLe (B' := B + 2500) (by omega)
     exact ⟨_, _, qs, by rw [hxl], hxl, hfl, ((HT.erase 3).erase 2)⟩

end Go.Proofs.YtoaopmkbfifhaaaGreatDoor

/- FnRootWrite: the law, walked. -/
namespace Go.Proofs.YtoaopmkbfifhaaaGreatDoor
set_option linter.unusedVariables false
set_option linter.unusedSimpArgs false
set_option maxHeartbeats 1000000
set_option maxRecDepth 100000
open Go.RowKit

theorem eqPtrD (x : PtrD) (d : Nat) (w : World) : (Op.equalIn (d + 2) 38 (.agg #[.int .i64 x.fAt, .int .i64 x.fBirth, .int .i64 x.fSize, .int .i64 x.fSum, .int .i64 x.fLevel]) (.agg #[.int .i64 x.fAt, .int .i64 x.fBirth, .int .i64 x.fSize, .int .i64 x.fSum, .int .i64 x.fLevel])).run Tryz.prog w = .ok true w := by
  have hS : Tryz.prog.underlying 38 = some (.struct (Tryz.prog.fieldsOf 38)) := by kernel_rfl
  have hp : Tryz.prog.stoodInHeld 38 = false := by kernel_rfl
  rw [run_equalIn_agg w (d + 1) 38 _ _ hS hp]
  simp only [Program.fieldsOf, Tryz.underlying38]
  go_simp
theorem eqTreeD (x : TreeD) (d : Nat) (w : World) : (Op.equalIn (d + 3) 40 (.agg #[.int .i64 x.fRoot.fAt, .int .i64 x.fRoot.fBirth, .int .i64 x.fRoot.fSize, .int .i64 x.fRoot.fSum, .int .i64 x.fRoot.fLevel, .int .i64 x.fDepth, .int .i64 x.fMany]) (.agg #[.int .i64 x.fRoot.fAt, .int .i64 x.fRoot.fBirth, .int .i64 x.fRoot.fSize, .int .i64 x.fRoot.fSum, .int .i64 x.fRoot.fLevel, .int .i64 x.fDepth, .int .i64 x.fMany])).run Tryz.prog w = .ok true w := by
  have hS : Tryz.prog.underlying 40 = some (.struct (Tryz.prog.fieldsOf 40)) := by kernel_rfl
  have hp : Tryz.prog.stoodInHeld 40 = false := by kernel_rfl
  have h1 := eqPtrD x.fRoot d w
  rw [run_equalIn_agg w (d + 2) 40 _ _ hS hp]
  simp only [Program.fieldsOf, Tryz.underlying40]
  go_simp
theorem eqRootW (x : RootD) (w : World) : (Op.equalIn 10000 42 (.agg #[.int .i64 x.fTxg, .int .i64 x.fMeta.fRoot.fAt, .int .i64 x.fMeta.fRoot.fBirth, .int .i64 x.fMeta.fRoot.fSize, .int .i64 x.fMeta.fRoot.fSum, .int .i64 x.fMeta.fRoot.fLevel, .int .i64 x.fMeta.fDepth, .int .i64 x.fMeta.fMany]) (.agg #[.int .i64 x.fTxg, .int .i64 x.fMeta.fRoot.fAt, .int .i64 x.fMeta.fRoot.fBirth, .int .i64 x.fMeta.fRoot.fSize, .int .i64 x.fMeta.fRoot.fSum, .int .i64 x.fMeta.fRoot.fLevel, .int .i64 x.fMeta.fDepth, .int .i64 x.fMeta.fMany])).run Tryz.prog w = .ok true w := by
  have hS : Tryz.prog.underlying 42 = some (.struct (Tryz.prog.fieldsOf 42)) := by kernel_rfl
  have hp : Tryz.prog.stoodInHeld 42 = false := by kernel_rfl
  have h1 := eqTreeD x.fMeta 9996 w
  generalize hD : 9996 = D at h1
  rw [show (10000 : Nat) = D + 3 + 1 by omega, run_equalIn_agg w (D + 3) 42 _ _ hS hp]
  simp only [Program.fieldsOf, Tryz.underlying42]
  go_simp
theorem yl_neqRoot {w : World} {o : Oper} {a : Act} {x y : Operand} {t' : TypeId} (z u : RootD) (hzu : z = u) (ho : o.op = .binOp .neq 42 x y t') (hx : a.eval x = .agg #[.int .i64 z.fTxg, .int .i64 z.fMeta.fRoot.fAt, .int .i64 z.fMeta.fRoot.fBirth, .int .i64 z.fMeta.fRoot.fSize, .int .i64 z.fMeta.fRoot.fSum, .int .i64 z.fMeta.fRoot.fLevel, .int .i64 z.fMeta.fDepth, .int .i64 z.fMeta.fMany]) (hy : a.eval y = .agg #[.int .i64 u.fTxg, .int .i64 u.fMeta.fRoot.fAt, .int .i64 u.fMeta.fRoot.fBirth, .int .i64 u.fMeta.fRoot.fSize, .int .i64 u.fMeta.fRoot.fSum, .int .i64 u.fMeta.fRoot.fLevel, .int .i64 u.fMeta.fDepth, .int .i64 u.fMeta.fMany]) : Yl Tryz.prog w o a (.bool false) := by
  subst hzu
  have he := eqRootW z w
  unfold Yl execOp
  simp only [ho, hx, hy]
  simp [eqGuard, binOp, go_sem, Op.equal]
  rw [show Op.maxDepth = 10000 from rfl, he]; rfl
theorem rootF_okR {ds xs : List DiskD} {x : RootD} (h : rootF ds x = some xs) : okR xs = true := by
  cases h1 : (okR ds && x.ok) with
  | false => rw [rootF_no h1] at h; cases h
  | true =>
    rw [Bool.and_eq_true] at h1
    rw [rootF_yes h1.1 h1.2] at h
    have hm : x.fTxg % 4 = ((x.fTxg % 4).toNat : Int) := by omega
    rw [hm] at h
    have h : eachTo (stepPut (((x.fTxg % 4).toNat : Nat) : Int) (fun _ => rootB x) (fun _ => true)) ds 3 = some xs := h
    obtain ⟨k1, k2⟩ := okR_at h1.1
    refine okR_of (eachTo_len h) fun k hk => ?_
    have h2 := eachTo_at2 h hk
    cases hg : (ds.getD k default).fGone with
    | false => exact (put_one h2 hg).2.2.2 (k2 k hk)
    | true => rw [stepPut_skip (by rw [hg]; rfl)] at h2; rw [← Option.some.inj h2]; exact k2 k hk

theorem drawRootWrite_any (w0 : World) (ab : Option Addr) (n0 cb : Nat) (bs0 : List UInt8) (hcap : n0 ≤ cb) (hn0 : n0 ≤ 1048576) (hR0 : Rd encB 1 w0 ab n0 bs0) : Calls Tryz.prog 19 #[.slice ab n0 cb] w0 fun e w' => ∃ (ao : Option Addr) (co : Nat) (ps : List HD) (x : RootD), e = .returned (.tuple #[.agg #[.slice ao ps.length co], (rV x)]) ∧ ps.length = 3 ∧ fitsL ps ∧ 0 ≤ x.fTxg ∧ x.fTxg ≤ 1000 ∧ St w0 [holdsA (rdsP ao ps)] w' := by
 have HS := Bx.mk (St.start w0)
 refine wc_enter Tryz.func19 rfl Tryz.ntmps19 [(0, .slice ab n0 cb)] ⟨rfl, trivial⟩ rfl ?_; intro a HF
 refine wp_sr ?_
 refine wl_alloc rfl HF rfl rfl rfl (Z := [.slice none 0 0]) (by kernel_rfl) rfl HS.out ?_; clear HF HS a; intro a w1 b1 HF HS; replace HS := Bx.mk HS
 refine wl_alloc rfl HF rfl rfl rfl (Z := [.int .i64 0, .int .i64 0, .int .i64 0, .int .i64 0, .int .i64 0, .int .i64 0, .int .i64 0, .int .i64 0]) (by kernel_rfl) rfl HS.out ?_; clear HF HS a; intro a w2 b2 HF HS; replace HS := Bx.mk HS
 refine wl_ne ?_
 refine wp_sr ?_
 refine wl_mv HF rfl rfl rfl rfl rfl ?_;clear HF a;intro a HF
 refine wl_call rfl HF rfl (enter_of Tryz.func48 (by kernel_rfl) rfl) (args := #[.slice ab n0 cb]) rfl (l6Open_any _ ab n0 cb hcap hn0) rfl rfl ?_
 rintro _ w3 ⟨rb, n, rfl, hn, hnn, hs⟩
 obtain ⟨bs, hR⟩ : ∃ bs, Rd encB 1 w0 ab n bs := ⟨_, hR0.take (k := n) (by rw [hR0.len]; exact hnn)⟩
 refine ⟨_, rfl, ?_⟩; replace HS := Bx.mk (HS.out.add hs); clear hs HF; clear a; intro a HF
 replace HS : Bx (St w0 ([rdA rb ab n cb 0, boxA b2 8 42 (rZ), boxA b1 1 34 (.agg #[.slice none 0 0])]) _) := ⟨HS.out⟩
 refine wl_as HF rfl rfl rfl rfl rfl ?_;clear HF a;intro a HF
 refine wl_ne ?_
 refine wp_sr ?_
 refine wl_mv HF rfl rfl rfl rfl rfl ?_;clear HF a;intro a HF
 replace HS:=Bx.mk (HS.out.pick 0 rfl)
 refine wl_call rfl HF rfl (enter_of Tryz.func49 (by kernel_rfl) rfl) (args := #[.pointer (some ⟨rb, 0, none⟩)]) rfl (l93Roots_any w0 _ rb ab n cb bs hn hR 0 (by omega) _ HS.out) rfl rfl ?_
 rintro _ w4 ⟨ao, co, ps, rfl, hpl, hpf, hs1⟩
 refine ⟨_, rfl, ?_⟩; replace HS := Bx.mk hs1; clear hs1 HF; clear a; intro a HF
 replace HS : Bx (St w0 ([rdA rb ab n cb (0 + 2500), holdsA (rdsP ao ps), boxA b2 8 42 (rZ), boxA b1 1 34 (.agg #[.slice none 0 0])]) _) := ⟨HS.out⟩
 refine wl_mv HF rfl rfl rfl rfl rfl ?_;clear HF a;intro a HF
 replace HS:=Bx.mk (HS.out.pick 0 rfl)
 refine wl_call rfl HF rfl (enter_of Tryz.func50 (by kernel_rfl) rfl) (args := #[.pointer (some ⟨rb, 0, none⟩)]) rfl (l93Root_any w0 _ rb ab n cb bs hn hR (0 + 2500) (by omega) _ HS.out) rfl rfl ?_
 rintro _ w5 ⟨x, hxa, hxb, rfl, hs1⟩
 refine ⟨_, rfl, ?_⟩; replace HS := Bx.mk hs1; clear hs1 HF; clear a; intro a HF
 replace HS : Bx (St w0 ([rdA rb ab n cb (0 + 2500 + 120), holdsA (rdsP ao ps), boxA b2 8 42 (rZ), boxA b1 1 34 (.agg #[.slice none 0 0])]) _) := ⟨HS.out⟩
 refine wl_storeBox rfl HF rfl rfl (HF.ev rfl) (HF.ev rfl) HS.out 3 rfl (cells_lit [.slice ao ps.length co] rfl rfl) (by kernel_rfl) ?_; clear HS; intro w6 HS; replace HS := Bx.mk HS
 have HS : Bx (St w0 ([rdA rb ab n cb (0 + 2500 + 120), holdsA (rdsP ao ps), boxA b2 8 42 (rZ), boxA b1 1 34 (.agg #[.slice ao ps.length co])]) _) := HS
 refine wl_storeBox rfl HF rfl rfl (HF.ev rfl) (HF.ev rfl) HS.out 2 rfl (cells_lit [.int .i64 x.fTxg, .int .i64 x.fMeta.fRoot.fAt, .int .i64 x.fMeta.fRoot.fBirth, .int .i64 x.fMeta.fRoot.fSize, .int .i64 x.fMeta.fRoot.fSum, .int .i64 x.fMeta.fRoot.fLevel, .int .i64 x.fMeta.fDepth, .int .i64 x.fMeta.fMany] rfl rfl) (by kernel_rfl) ?_; clear HS; intro w7 HS; replace HS := Bx.mk HS
 have HS : Bx (St w0 ([rdA rb ab n cb (0 + 2500 + 120), holdsA (rdsP ao ps), boxA b2 8 42 (rV x), boxA b1 1 34 (.agg #[.slice ao ps.length co])]) _) := HS
 refine wl_ne ?_
 refine wp_ret ?_
 refine bp_ret2 HF Tryz.results19 (HF.resBox rfl (HS.out.box 3 rfl) (by kernel_rfl)) (HF.resBox rfl (HS.out.box 2 rfl) (by kernel_rfl)) ?_
 replace HS:=Bx.mk (HS.out.pick 1 rfl)
 exact ⟨ao, co, ps, x, rfl, hpl, hpf, hxa, hxb, (((HS.out.erase 3).erase 2).erase 1)⟩

theorem fnRootWrite_walk (w0 : World) (ab : Option Addr) (n0 cb : Nat) (bs : List UInt8) (hT : TabP w0) (hM : MaxP w0) (hE : ErrP w0) (hcap : n0 ≤ cb) (hR : Rd encB 1 w0 ab n0 bs) : Calls Tryz.prog 5 #[.slice ab n0 cb] w0 fun e w' => e = .returned (.bool true) ∧ Below w0.heap.size w0 w' := by
 have HT := Bx.mk hT; have HM := Bx.mk hM; have HE := Bx.mk hE; clear hT hM hE
 have HS := Bx.mk (St.start w0)
 refine wc_enter Tryz.func5 rfl Tryz.ntmps5 [(0, .slice ab n0 cb)] ⟨rfl, trivial⟩ rfl ?_; intro a HF
 refine wp_sr ?_
 refine wl_as HF rfl rfl rfl rfl rfl ?_;clear HF a;intro a HF
 refine wl_ne ?_
 refine wp_seq ?_
 refine wp_sr ?_
 refine wl_mv HF rfl rfl rfl rfl rfl ?_;clear HF a;intro a HF
 refine wl_y rfl HF rfl rfl (yl_lenL (e := 5) (size := 1) rfl (HF.ev rfl) (by kernel_rfl)) ?_;clear HF a;intro a HF
 refine wl_y rfl HF rfl rfl (yl_gtrI rfl (HF.ev rfl) (HF.ev rfl)) ?_;clear HF a;intro a HF
 refine wl_ne ?_
 refine HF.cases 23 rfl (fun cc1 HF1 => ?_) (fun cc1 HF1 => ?_)
 ·clear HF; have HF := HF1; clear HF1
  have dcc1 := of_decide_eq_true cc1
  refine wc_true HF rfl ?_
  refine wp_sr ?_
  refine wl_as HF rfl rfl rfl rfl rfl ?_;clear HF a;intro a HF
  refine wl_ne ?_
  refine wp_ret ?_
  refine ex_then_ret ?_
  refine bp_ret1 HF Tryz.results5 (HF.res rfl) ?_
  exact ⟨rfl, HS.out.bel⟩
 ·clear HF; have HF := HF1; clear HF1
  have dcc1 := of_decide_eq_false cc1
  refine wc_false HF rfl ?_
  refine wp_skip ?_
  refine ex_then ?_
  refine wp_sr ?_
  refine wl_mv HF rfl rfl rfl rfl rfl ?_;clear HF a;intro a HF
  refine wl_call rfl HF rfl (enter_of Tryz.func19 (by kernel_rfl) rfl) (args := #[.slice ab n0 cb]) rfl (drawRootWrite_any _ ab n0 cb bs hcap (by omega) (hR.below HS.out.bel)) rfl rfl ?_
  rintro _ w1 ⟨ao, co, ps, x, rfl, hpl, hpf, hxa, hxb, hs⟩
  refine ⟨_, rfl, ?_⟩; replace HS := Bx.mk (HS.out.add hs); clear hs HF; clear a; intro a HF
  replace HS : Bx (St w0 ([holdsA (rdsP ao ps)]) _) := ⟨HS.out⟩
  refine wl_mv HF rfl rfl rfl rfl rfl ?_;clear HF a;intro a HF
  refine wl_y rfl HF rfl rfl (yl_extract rfl (HF.ev rfl) rfl) ?_;clear HF a;intro a HF
  refine wl_y rfl HF rfl rfl (yl_extract rfl (HF.ev rfl) rfl) ?_;clear HF a;intro a HF
  refine wl_alloc rfl HF rfl rfl rfl (Z := [.slice none 0 0]) (by kernel_rfl) rfl HS.out ?_; clear HF HS a; intro a w2 b2 HF HS; replace HS := Bx.mk HS
  refine wl_alloc rfl HF rfl rfl rfl (Z := [.int .i64 0, .int .i64 0, .int .i64 0, .int .i64 0, .int .i64 0, .int .i64 0, .int .i64 0, .int .i64 0]) (by kernel_rfl) rfl HS.out ?_; clear HF HS a; intro a w3 b3 HF HS; replace HS := Bx.mk HS
  refine wl_storeBox rfl HF rfl rfl (HF.ev rfl) (HF.ev rfl) HS.out 1 rfl (cells_lit [.slice ao ps.length co] rfl rfl) (by kernel_rfl) ?_; clear HS; intro w4 HS; replace HS := Bx.mk HS
  have HS : Bx (St w0 ([boxA b3 8 42 (rZ), boxA b2 1 34 (.agg #[.slice ao ps.length co]), holdsA (rdsP ao ps)]) _) := HS
  refine wl_storeBox rfl HF rfl rfl (HF.ev rfl) (HF.ev rfl) HS.out 0 rfl (cells_lit [.int .i64 x.fTxg, .int .i64 x.fMeta.fRoot.fAt, .int .i64 x.fMeta.fRoot.fBirth, .int .i64 x.fMeta.fRoot.fSize, .int .i64 x.fMeta.fRoot.fSum, .int .i64 x.fMeta.fRoot.fLevel, .int .i64 x.fMeta.fDepth, .int .i64 x.fMeta.fMany] rfl rfl) (by kernel_rfl) ?_; clear HS; intro w5 HS; replace HS := Bx.mk HS
  have HS : Bx (St w0 ([boxA b3 8 42 (rV x), boxA b2 1 34 (.agg #[.slice ao ps.length co]), holdsA (rdsP ao ps)]) _) := HS
  refine wl_ne ?_
  refine wp_sr ?_
  refine wl_y rfl HF rfl rfl (yl_loadR (cs := [.slice ao ps.length co]) rfl (HF.ev rfl) ((HS.out.box 1 rfl).sub 0 1) (by kernel_rfl)) ?_;clear HF a;intro a HF
  refine wl_y rfl HF rfl rfl (yl_loadR (cs := [.int .i64 x.fTxg, .int .i64 x.fMeta.fRoot.fAt, .int .i64 x.fMeta.fRoot.fBirth, .int .i64 x.fMeta.fRoot.fSize, .int .i64 x.fMeta.fRoot.fSum, .int .i64 x.fMeta.fRoot.fLevel, .int .i64 x.fMeta.fDepth, .int .i64 x.fMeta.fMany]) rfl (HF.ev rfl) ((HS.out.box 0 rfl).sub 0 8) (by kernel_rfl)) ?_;clear HF a;intro a HF
  refine wl_call rfl HF rfl (enter_of Tryz.func11 (by kernel_rfl) rfl) (args := #[.agg #[.slice ao ps.length co], (rV x)]) rfl (implRootWrite_any ao co ps _ (by omega) hpf (HS.out.holds 2 rfl) (HT.out.below HS.out.bel) x) rfl rfl ?_
  rintro _ w6 (⟨hev, rfl, hs⟩ | ⟨ao1, cp1, qs1, hev, rfl, hs⟩)
  ·skip
   refine ⟨_, rfl, ?_⟩; replace HS := Bx.mk (HS.out.add hs); clear hs HF; clear a; intro a HF
   replace HS : Bx (St w0 ([boxA b3 8 42 (rV x), boxA b2 1 34 (.agg #[.slice ao ps.length co]), holdsA (rdsP ao ps)]) _) := ⟨HS.out⟩
   refine wl_mv HF rfl rfl rfl rfl rfl ?_;clear HF a;intro a HF
   refine wl_y rfl HF rfl rfl (yl_extract rfl (HF.ev rfl) rfl) ?_;clear HF a;intro a HF
   refine wl_y rfl HF rfl rfl (yl_extract rfl (HF.ev rfl) rfl) ?_;clear HF a;intro a HF
   refine wl_alloc rfl HF rfl rfl rfl (Z := [.slice none 0 0]) (by kernel_rfl) rfl HS.out ?_; clear HF HS a; intro a w7 b5 HF HS; replace HS := Bx.mk HS
   refine wl_storeBox rfl HF rfl rfl (HF.ev rfl) (HF.ev rfl) HS.out 0 rfl (cells_lit [.slice none 0 0] rfl rfl) (by kernel_rfl) ?_; clear HS; intro w8 HS; replace HS := Bx.mk HS
   have HS : Bx (St w0 ([boxA b5 1 34 (.agg #[.slice none 0 0]), boxA b3 8 42 (rV x), boxA b2 1 34 (.agg #[.slice ao ps.length co]), holdsA (rdsP ao ps)]) _) := HS
   refine wl_as HF rfl rfl rfl rfl rfl ?_;clear HF a;intro a HF
   refine wl_ne ?_
   refine wp_sr ?_
   refine wl_y rfl HF rfl rfl (yl_loadR (cs := [.slice ao ps.length co]) rfl (HF.ev rfl) ((HS.out.box 2 rfl).sub 0 1) (by kernel_rfl)) ?_;clear HF a;intro a HF
   refine wl_y rfl HF rfl rfl (yl_loadR (cs := [.int .i64 x.fTxg, .int .i64 x.fMeta.fRoot.fAt, .int .i64 x.fMeta.fRoot.fBirth, .int .i64 x.fMeta.fRoot.fSize, .int .i64 x.fMeta.fRoot.fSum, .int .i64 x.fMeta.fRoot.fLevel, .int .i64 x.fMeta.fDepth, .int .i64 x.fMeta.fMany]) rfl (HF.ev rfl) ((HS.out.box 1 rfl).sub 0 8) (by kernel_rfl)) ?_;clear HF a;intro a HF
   refine wl_call rfl HF rfl (enter_of Tryz.func8 (by kernel_rfl) rfl) (args := #[.agg #[.slice ao ps.length co], (rV x)]) rfl (specRootWrite_any ao co ps _ (by omega) hpf (HS.out.holds 3 rfl) x) rfl rfl ?_
   rintro _ w9 (⟨hev2, rfl, hs⟩ | ⟨ao9, cp9, qs9, hev2, rfl, hs⟩)
   ·skip
    refine ⟨_, rfl, ?_⟩; replace HS := Bx.mk (HS.out.add hs); clear hs HF; clear a; intro a HF
    replace HS : Bx (St w0 ([boxA b5 1 34 (.agg #[.slice none 0 0]), boxA b3 8 42 (rV x), boxA b2 1 34 (.agg #[.slice ao ps.length co]), holdsA (rdsP ao ps)]) _) := ⟨HS.out⟩
    refine wl_mv HF rfl rfl rfl rfl rfl ?_;clear HF a;intro a HF
    refine wl_y rfl HF rfl rfl (yl_extract rfl (HF.ev rfl) rfl) ?_;clear HF a;intro a HF
    refine wl_y rfl HF rfl rfl (yl_extract rfl (HF.ev rfl) rfl) ?_;clear HF a;intro a HF
    refine wl_alloc rfl HF rfl rfl rfl (Z := [.slice none 0 0]) (by kernel_rfl) rfl HS.out ?_; clear HF HS a; intro a w10 b7 HF HS; replace HS := Bx.mk HS
    refine wl_storeBox rfl HF rfl rfl (HF.ev rfl) (HF.ev rfl) HS.out 0 rfl (cells_lit [.slice none 0 0] rfl rfl) (by kernel_rfl) ?_; clear HS; intro w11 HS; replace HS := Bx.mk HS
    have HS : Bx (St w0 ([boxA b7 1 34 (.agg #[.slice none 0 0]), boxA b5 1 34 (.agg #[.slice none 0 0]), boxA b3 8 42 (rV x), boxA b2 1 34 (.agg #[.slice ao ps.length co]), holdsA (rdsP ao ps)]) _) := HS
    refine wl_as HF rfl rfl rfl rfl rfl ?_;clear HF a;intro a HF
    refine wl_ne ?_
    refine wp_sr ?_
    refine wl_y rfl HF rfl rfl (yl_loadR (cs := [.slice none 0 0]) rfl (HF.ev rfl) ((HS.out.box 1 rfl).sub 0 1) (by kernel_rfl)) ?_;clear HF a;intro a HF
    refine wl_y rfl HF rfl rfl (yl_loadR (cs := [.slice none 0 0]) rfl (HF.ev rfl) ((HS.out.box 0 rfl).sub 0 1) (by kernel_rfl)) ?_;clear HF a;intro a HF
    refine wl_callB rfl HF rfl (enter_of Tryz.func20 (by kernel_rfl) rfl) (args := #[.agg #[.slice none 0 0], .agg #[.slice none 0 0]]) rfl (v := .bool true) ((pfRaid_yes none none 0 0 0 [] [] rfl rfl _ (by decide) fitsL_nil (rds_nil _) (rds_nil _))) rfl rfl HS.out ?_; clear HF HS a; intro w12 a HS HF; replace HS := Bx.mk HS
    refine wl_mv HF rfl rfl rfl rfl rfl ?_;clear HF a;intro a HF
    refine wl_yg HF rfl rfl rfl rfl rfl (yl_move rfl (HF.ev rfl)) ?_;clear HF a;intro a HF
    refine wl_yg HF rfl rfl rfl rfl rfl (yl_move rfl (HF.ev rfl)) ?_;clear HF a;intro a HF
    refine wl_yg HF rfl rfl rfl rfl rfl (yl_eqlBs rfl (HF.ev rfl) (HF.ev rfl) (by kernel_rfl)) ?_;clear HF a;intro a HF
    refine wl_y rfl HF rfl rfl (yl_pick_t rfl (HF.ev rfl) (HF.ev rfl)) ?_;clear HF a;intro a HF
    refine wl_as HF rfl rfl rfl rfl rfl ?_;clear HF a;intro a HF
    refine wl_ne ?_
    refine wp_seq ?_
    refine wp_sr ?_
    refine wl_mv HF rfl rfl rfl rfl rfl ?_;clear HF a;intro a HF
    refine wl_y rfl HF rfl rfl (yl_not rfl (HF.ev rfl)) ?_;clear HF a;intro a HF
    refine wl_mv HF rfl rfl rfl rfl rfl ?_;clear HF a;intro a HF
    refine wl_yg HF rfl rfl rfl rfl rfl (yl_move rfl (HF.ev rfl)) ?_;clear HF a;intro a HF
    refine wl_yg HF rfl rfl rfl rfl rfl (yl_move rfl (HF.ev rfl)) ?_;clear HF a;intro a HF
    refine wl_skip HF rfl rfl rfl rfl rfl rfl ?_;clear HF a;intro a HF
    refine wl_skip HF rfl rfl rfl rfl rfl rfl ?_;clear HF a;intro a HF
    refine wl_skip HF rfl rfl rfl rfl rfl rfl ?_;clear HF a;intro a HF
    refine wl_yg HF rfl rfl rfl rfl rfl (yl_pick_f rfl (HF.ev rfl) (HF.ev rfl)) ?_;clear HF a;intro a HF
    refine wl_yg HF rfl rfl rfl rfl rfl (yl_not rfl (HF.ev rfl)) ?_;clear HF a;intro a HF
    refine wl_y rfl HF rfl rfl (yl_pick_f rfl (HF.ev rfl) (HF.ev rfl)) ?_;clear HF a;intro a HF
    refine wl_ne ?_
    refine wc_true HF rfl ?_
    refine wp_sr ?_
    refine wl_mv HF rfl rfl rfl rfl rfl ?_;clear HF a;intro a HF
    refine wl_as HF rfl rfl rfl rfl rfl ?_;clear HF a;intro a HF
    refine wl_ne ?_
    refine wp_ret ?_
    refine ex_then_ret ?_
    refine bp_ret1 HF Tryz.results5 (HF.res rfl) ?_
    exact ⟨rfl, HS.out.bel⟩
   ·skip
    exact absurd (hev2.symm.trans hev) (by simp)
  ·skip
   have hok1 := rootF_okR hev; have hl1 : qs1.length = 3 := by rw [← dsOf_len]; exact (okR_at hok1).1
   have hf1 : fitsL qs1 := okR_fits hok1
   refine ⟨_, rfl, ?_⟩; replace HS := Bx.mk (HS.out.add (raid_holdG rfl hs)); clear hs HF; clear a; intro a HF
   replace HS : Bx (St w0 ([holdsA (rdsP ao1 qs1), boxA b3 8 42 (rV x), boxA b2 1 34 (.agg #[.slice ao ps.length co]), holdsA (rdsP ao ps)]) _) := ⟨HS.out⟩
   refine wl_mv HF rfl rfl rfl rfl rfl ?_;clear HF a;intro a HF
   refine wl_y rfl HF rfl rfl (yl_extract rfl (HF.ev rfl) rfl) ?_;clear HF a;intro a HF
   refine wl_y rfl HF rfl rfl (yl_extract rfl (HF.ev rfl) rfl) ?_;clear HF a;intro a HF
   refine wl_alloc rfl HF rfl rfl rfl (Z := [.slice none 0 0]) (by kernel_rfl) rfl HS.out ?_; clear HF HS a; intro a w13 b8 HF HS; replace HS := Bx.mk HS
   refine wl_storeBox rfl HF rfl rfl (HF.ev rfl) (HF.ev rfl) HS.out 0 rfl (cells_lit [.slice ao1 qs1.length cp1] rfl rfl) (by kernel_rfl) ?_; clear HS; intro w14 HS; replace HS := Bx.mk HS
   have HS : Bx (St w0 ([boxA b8 1 34 (.agg #[.slice ao1 qs1.length cp1]), holdsA (rdsP ao1 qs1), boxA b3 8 42 (rV x), boxA b2 1 34 (.agg #[.slice ao ps.length co]), holdsA (rdsP ao ps)]) _) := HS
   refine wl_as HF rfl rfl rfl rfl rfl ?_;clear HF a;intro a HF
   refine wl_ne ?_
   refine wp_sr ?_
   refine wl_y rfl HF rfl rfl (yl_loadR (cs := [.slice ao ps.length co]) rfl (HF.ev rfl) ((HS.out.box 3 rfl).sub 0 1) (by kernel_rfl)) ?_;clear HF a;intro a HF
   refine wl_y rfl HF rfl rfl (yl_loadR (cs := [.int .i64 x.fTxg, .int .i64 x.fMeta.fRoot.fAt, .int .i64 x.fMeta.fRoot.fBirth, .int .i64 x.fMeta.fRoot.fSize, .int .i64 x.fMeta.fRoot.fSum, .int .i64 x.fMeta.fRoot.fLevel, .int .i64 x.fMeta.fDepth, .int .i64 x.fMeta.fMany]) rfl (HF.ev rfl) ((HS.out.box 2 rfl).sub 0 8) (by kernel_rfl)) ?_;clear HF a;intro a HF
   refine wl_call rfl HF rfl (enter_of Tryz.func8 (by kernel_rfl) rfl) (args := #[.agg #[.slice ao ps.length co], (rV x)]) rfl (specRootWrite_any ao co ps _ (by omega) hpf (HS.out.holds 4 rfl) x) rfl rfl ?_
   rintro _ w15 (⟨hev2, rfl, hs⟩ | ⟨ao9, cp9, qs9, hev2, rfl, hs⟩)
   ·skip
    exact absurd (hev2.symm.trans hev) (by simp)
   ·skip
    have hq9 : dsOf qs9 = dsOf qs1 := Option.some.inj (hev2.symm.trans hev)
    refine ⟨_, rfl, ?_⟩; replace HS := Bx.mk (HS.out.add (raid_holdG rfl hs)); clear hs HF; clear a; intro a HF
    replace HS : Bx (St w0 ([holdsA (rdsP ao9 qs9), boxA b8 1 34 (.agg #[.slice ao1 qs1.length cp1]), holdsA (rdsP ao1 qs1), boxA b3 8 42 (rV x), boxA b2 1 34 (.agg #[.slice ao ps.length co]), holdsA (rdsP ao ps)]) _) := ⟨HS.out⟩
    refine wl_mv HF rfl rfl rfl rfl rfl ?_;clear HF a;intro a HF
    refine wl_y rfl HF rfl rfl (yl_extract rfl (HF.ev rfl) rfl) ?_;clear HF a;intro a HF
    refine wl_y rfl HF rfl rfl (yl_extract rfl (HF.ev rfl) rfl) ?_;clear HF a;intro a HF
    refine wl_alloc rfl HF rfl rfl rfl (Z := [.slice none 0 0]) (by kernel_rfl) rfl HS.out ?_; clear HF HS a; intro a w16 b10 HF HS; replace HS := Bx.mk HS
    refine wl_storeBox rfl HF rfl rfl (HF.ev rfl) (HF.ev rfl) HS.out 0 rfl (cells_lit [.slice ao9 qs9.length cp9] rfl rfl) (by kernel_rfl) ?_; clear HS; intro w17 HS; replace HS := Bx.mk HS
    have HS : Bx (St w0 ([boxA b10 1 34 (.agg #[.slice ao9 qs9.length cp9]), holdsA (rdsP ao9 qs9), boxA b8 1 34 (.agg #[.slice ao1 qs1.length cp1]), holdsA (rdsP ao1 qs1), boxA b3 8 42 (rV x), boxA b2 1 34 (.agg #[.slice ao ps.length co]), holdsA (rdsP ao ps)]) _) := HS
    refine wl_as HF rfl rfl rfl rfl rfl ?_;clear HF a;intro a HF
    refine wl_ne ?_
    refine wp_sr ?_
    refine wl_y rfl HF rfl rfl (yl_loadR (cs := [.slice ao1 qs1.length cp1]) rfl (HF.ev rfl) ((HS.out.box 2 rfl).sub 0 1) (by kernel_rfl)) ?_;clear HF a;intro a HF
    refine wl_y rfl HF rfl rfl (yl_loadR (cs := [.slice ao9 qs9.length cp9]) rfl (HF.ev rfl) ((HS.out.box 0 rfl).sub 0 1) (by kernel_rfl)) ?_;clear HF a;intro a HF
    refine wl_callB rfl HF rfl (enter_of Tryz.func20 (by kernel_rfl) rfl) (args := #[.agg #[.slice ao1 qs1.length cp1], .agg #[.slice ao9 qs9.length cp9]]) rfl (v := .bool true) ((pfRaid_yes ao1 ao9 cp1 cp9 _ qs1 qs9 rfl hq9 _ (by omega) hf1 (HS.out.holds 3 rfl) (HS.out.holds 1 rfl))) rfl rfl HS.out ?_; clear HF HS a; intro w18 a HS HF; replace HS := Bx.mk HS
    refine wl_mv HF rfl rfl rfl rfl rfl ?_;clear HF a;intro a HF
    refine wl_yg HF rfl rfl rfl rfl rfl (yl_move rfl (HF.ev rfl)) ?_;clear HF a;intro a HF
    refine wl_yg HF rfl rfl rfl rfl rfl (yl_move rfl (HF.ev rfl)) ?_;clear HF a;intro a HF
    refine wl_yg HF rfl rfl rfl rfl rfl (yl_eqlBs rfl (HF.ev rfl) (HF.ev rfl) (by kernel_rfl)) ?_;clear HF a;intro a HF
    refine wl_y rfl HF rfl rfl (yl_pick_t rfl (HF.ev rfl) (HF.ev rfl)) ?_;clear HF a;intro a HF
    refine wl_as HF rfl rfl rfl rfl rfl ?_;clear HF a;intro a HF
    refine wl_ne ?_
    refine wp_seq ?_
    refine wp_sr ?_
    refine wl_mv HF rfl rfl rfl rfl rfl ?_;clear HF a;intro a HF
    refine wl_y rfl HF rfl rfl (yl_not rfl (HF.ev rfl)) ?_;clear HF a;intro a HF
    refine wl_mv HF rfl rfl rfl rfl rfl ?_;clear HF a;intro a HF
    refine wl_yg HF rfl rfl rfl rfl rfl (yl_move rfl (HF.ev rfl)) ?_;clear HF a;intro a HF
    refine wl_yg HF rfl rfl rfl rfl rfl (yl_move rfl (HF.ev rfl)) ?_;clear HF a;intro a HF
    refine wl_yg HF rfl rfl rfl rfl rfl (yl_loadR (cs := [.slice ao ps.length co]) rfl (HF.ev rfl) ((HS.out.box 5 rfl).sub 0 1) (by kernel_rfl)) ?_;clear HF a;intro a HF
    refine wl_callBg HF rfl rfl rfl rfl (enter_of Tryz.func21 (by kernel_rfl) rfl) (args := #[.agg #[.slice ao ps.length co]]) rfl (v := .int .i64 (lostN (dsOf ps) 3 : Int)) ((pfLost_three ao co ps _ hpl (HS.out.holds 6 rfl))) rfl rfl HS.out ?_; clear HF HS a; intro w19 a HS HF; replace HS := Bx.mk HS
    refine wl_yg HF rfl rfl rfl rfl rfl (yl_eqlI rfl (HF.ev rfl) (HF.ev rfl)) ?_;clear HF a;intro a HF
    refine wl_yg HF rfl rfl rfl rfl rfl (yl_pick_t rfl (HF.ev rfl) (HF.ev rfl)) ?_;clear HF a;intro a HF
    refine wl_yg HF rfl rfl rfl rfl rfl (yl_not rfl (HF.ev rfl)) ?_;clear HF a;intro a HF
    refine wl_y rfl HF rfl rfl (yl_pick_f rfl (HF.ev rfl) (HF.ev rfl)) ?_;clear HF a;intro a HF
    refine wl_ne ?_
    refine HF.cases 59 rfl (fun cc2 HF1 => ?_) (fun cc2 HF1 => ?_)
    ·clear HF; have HF := HF1; clear HF1
     refine wc_true HF rfl ?_
     refine wp_sr ?_
     refine wl_mv HF rfl rfl rfl rfl rfl ?_;clear HF a;intro a HF
     refine wl_as HF rfl rfl rfl rfl rfl ?_;clear HF a;intro a HF
     refine wl_ne ?_
     refine wp_ret ?_
     refine ex_then_ret ?_
     refine bp_ret1 HF Tryz.results5 (HF.res rfl) ?_
     exact ⟨rfl, HS.out.bel⟩
    ·clear HF; have HF := HF1; clear HF1
     have hlost : lostN (dsOf ps) 3 = 0 := by have : (lostN (dsOf ps) 3 : Int) = 0 := (by simpa using cc2); omega
     refine wc_false HF rfl ?_
     refine wp_skip ?_
     refine ex_then ?_
     refine wp_seq ?_
     obtain ⟨m, hlaw⟩ := root_law hev hlost; have hm4 := hlaw.m4
     refine wp_region_lit ?_
     refine wl_y rfl HF rfl rfl (yl_fieldAddr (j := 0) rfl (HF.ev rfl) (by kernel_rfl)) ?_;clear HF a;intro a HF
     refine wl_y rfl HF rfl rfl (yl_load (v := .int .i64 x.fTxg) rfl (HF.ev rfl) (((HS.out.box 4 rfl).cell 0).trans rfl) (by kernel_rfl)) ?_;clear HF a;intro a HF
     refine wl_y rfl HF rfl rfl (yl_remI rfl (HF.ev rfl) (HF.ev rfl) (by omega) (r := (m : Int)) ((rem_pos (by omega) (by omega)).trans hlaw.row)) ?_;clear HF a;intro a HF
     refine wl_as HF rfl rfl rfl rfl rfl ?_;clear HF a;intro a HF
     refine wl_ne ?_
     refine wp_seq ?_
     refine wp_sr ?_
     refine wl_as HF rfl rfl rfl rfl rfl ?_;clear HF a;intro a HF
     refine wl_ne ?_
     refine wp_block ?_
     refine wc_loop (ι := Nat) (fun k a w => (k ≤ 3) ∧ Fr 126 a [(2, .bool false), (3, .pointer (some ⟨b2, 0, none⟩)), (4, .pointer (some ⟨b3, 0, none⟩)), (5, .pointer (some ⟨b8, 0, none⟩)), (6, .bool true), (7, .pointer (some ⟨b10, 0, none⟩)), (8, .bool true), (9, .bool true), (10, .int .i64 (m : Int)), (11, .int .i64 (k : Int))] ∧ St w0 ([boxA b10 1 34 (.agg #[.slice ao9 qs9.length cp9]), holdsA (rdsP ao9 qs9), boxA b8 1 34 (.agg #[.slice ao1 qs1.length cp1]), holdsA (rdsP ao1 qs1), boxA b3 8 42 (rV x), boxA b2 1 34 (.agg #[.slice ao ps.length co]), holdsA (rdsP ao ps)]) w) (fun k => 3 - k) 0 ⟨(by omega), HF.less _ ⟨rfl, rfl, rfl, rfl, rfl, rfl, rfl, rfl, rfl, rfl, trivial⟩, HS.out⟩ ?_
     clear HF HS; clear a
     rintro k a w20 ⟨hk, HF, HS⟩
     replace HS := Bx.mk HS
     refine wp_seq ?_
     refine wp_sr ?_
     refine wl_mv HF rfl rfl rfl rfl rfl ?_;clear HF a;intro a HF
     refine wl_y rfl HF rfl rfl (yl_lssI rfl (HF.ev rfl) (HF.ev rfl)) ?_;clear HF a;intro a HF
     refine wl_ne ?_
     refine HF.cases 65 rfl (fun cc3 HF1 => ?_) (fun cc3 HF1 => ?_)
     ·clear HF; have HF := HF1; clear HF1
      have dcc3 := of_decide_eq_true cc3
      refine wc_true HF rfl ?_
      refine wp_skip ?_
      refine ex_then ?_
      refine wp_seq ?_
      refine wp_block ?_
      refine wp_sr ?_
      refine wl_y rfl HF rfl rfl (yl_loadR (cs := [.slice ao1 qs1.length cp1]) rfl (HF.ev rfl) ((HS.out.box 2 rfl).sub 0 1) (by kernel_rfl)) ?_;clear HF a;intro a HF
      refine wl_mv HF rfl rfl rfl rfl rfl ?_;clear HF a;intro a HF
      refine wl_y rfl HF rfl rfl (yl_addI rfl (HF.ev rfl) (HF.ev rfl) (i64w (by omega))) ?_;clear HF a;intro a HF
      refine wl_y rfl HF rfl rfl (yl_remI rfl (HF.ev rfl) (HF.ev rfl) (by omega) (r := (((k + 1) % 3 : Nat) : Int)) ((rem_pos (by omega) (by omega)).trans (by omega))) ?_;clear HF a;intro a HF
      refine wl_call rfl HF rfl (enter_of Tryz.func22 (by kernel_rfl) rfl) (args := #[.agg #[.slice ao1 qs1.length cp1], .int .i64 (((k + 1) % 3 : Nat) : Int)]) rfl (raidLose_any ao1 cp1 qs1 _ (by omega) hf1 (HS.out.holds 3 rfl) ((k + 1) % 3)) rfl rfl ?_
      rintro _ w21 (⟨h0, _⟩ | ⟨_, ao4, cp4, qs4, hq4, rfl, hs⟩)
      ·exact absurd h0 (by rw [hlaw.ox, inB_yes (n := (((k + 1) % 3 : Nat) : Int)) (by omega) (by omega)]; simp)
      have hok4 : okR (dsOf qs4) = true := by rw [hq4]; exact okR_set hlaw.ox lost_ok
      have hl4 : qs4.length = 3 := by rw [← dsOf_len]; exact (okR_at hok4).1
      have hf4 : fitsL qs4 := okR_fits hok4
      refine ⟨_, rfl, ?_⟩; replace HS := Bx.mk (HS.out.add hs); clear hs HF; clear a; intro a HF
      replace HS : Bx (St w0 ([holdsA (rdsP ao4 qs4), boxA b10 1 34 (.agg #[.slice ao9 qs9.length cp9]), holdsA (rdsP ao9 qs9), boxA b8 1 34 (.agg #[.slice ao1 qs1.length cp1]), holdsA (rdsP ao1 qs1), boxA b3 8 42 (rV x), boxA b2 1 34 (.agg #[.slice ao ps.length co]), holdsA (rdsP ao ps)]) _) := ⟨HS.out⟩
      refine wl_mv HF rfl rfl rfl rfl rfl ?_;clear HF a;intro a HF
      refine wl_y rfl HF rfl rfl (yl_extract rfl (HF.ev rfl) rfl) ?_;clear HF a;intro a HF
      refine wl_y rfl HF rfl rfl (yl_extract rfl (HF.ev rfl) rfl) ?_;clear HF a;intro a HF
      refine wl_alloc rfl HF rfl rfl rfl (Z := [.slice none 0 0]) (by kernel_rfl) rfl HS.out ?_; clear HF HS a; intro a w22 b12 HF HS; replace HS := Bx.mk HS
      refine wl_storeBox rfl HF rfl rfl (HF.ev rfl) (HF.ev rfl) HS.out 0 rfl (cells_lit [.slice ao4 qs4.length cp4] rfl rfl) (by kernel_rfl) ?_; clear HS; intro w23 HS; replace HS := Bx.mk HS
      have HS : Bx (St w0 ([boxA b12 1 34 (.agg #[.slice ao4 qs4.length cp4]), holdsA (rdsP ao4 qs4), boxA b10 1 34 (.agg #[.slice ao9 qs9.length cp9]), holdsA (rdsP ao9 qs9), boxA b8 1 34 (.agg #[.slice ao1 qs1.length cp1]), holdsA (rdsP ao1 qs1), boxA b3 8 42 (rV x), boxA b2 1 34 (.agg #[.slice ao ps.length co]), holdsA (rdsP ao ps)]) _) := HS
      refine wl_as HF rfl rfl rfl rfl rfl ?_;clear HF a;intro a HF
      refine wl_ne ?_
      refine wp_sr ?_
      refine wl_y rfl HF rfl rfl (yl_loadR (cs := [.slice ao4 qs4.length cp4]) rfl (HF.ev rfl) ((HS.out.box 0 rfl).sub 0 1) (by kernel_rfl)) ?_;clear HF a;intro a HF
      refine wl_mv HF rfl rfl rfl rfl rfl ?_;clear HF a;intro a HF
      refine wl_y rfl HF rfl rfl (yl_addI rfl (HF.ev rfl) (HF.ev rfl) (i64w (by omega))) ?_;clear HF a;intro a HF
      refine wl_y rfl HF rfl rfl (yl_remI rfl (HF.ev rfl) (HF.ev rfl) (by omega) (r := (((k + 2) % 3 : Nat) : Int)) ((rem_pos (by omega) (by omega)).trans (by omega))) ?_;clear HF a;intro a HF
      refine wl_call rfl HF rfl (enter_of Tryz.func22 (by kernel_rfl) rfl) (args := #[.agg #[.slice ao4 qs4.length cp4], .int .i64 (((k + 2) % 3 : Nat) : Int)]) rfl (raidLose_any ao4 cp4 qs4 _ (by omega) hf4 (HS.out.holds 1 rfl) ((k + 2) % 3)) rfl rfl ?_
      rintro _ w24 (⟨h0, _⟩ | ⟨_, ao5, cp5, qs5, hq5, rfl, hs⟩)
      ·exact absurd h0 (by rw [hok4, inB_yes (n := (((k + 2) % 3 : Nat) : Int)) (by omega) (by omega)]; simp)
      have hok5 : okR (dsOf qs5) = true := by rw [hq5]; exact okR_set hok4 lost_ok
      have hl5 : qs5.length = 3 := by rw [← dsOf_len]; exact (okR_at hok5).1
      have hf5 : fitsL qs5 := okR_fits hok5
      have hr5 : rootAtF (dsOf qs5) (m : Int) = (x, true) := by rw [hq5, hq4]; exact (hlaw.found (i := k) (j := (k + 1) % 3) (k := (k + 2) % 3) (by omega) (by omega) (by omega) (by omega) (by omega) (by omega)).2
      refine ⟨_, rfl, ?_⟩; replace HS := Bx.mk (HS.out.add hs); clear hs HF; clear a; intro a HF
      replace HS : Bx (St w0 ([holdsA (rdsP ao5 qs5), boxA b12 1 34 (.agg #[.slice ao4 qs4.length cp4]), holdsA (rdsP ao4 qs4), boxA b10 1 34 (.agg #[.slice ao9 qs9.length cp9]), holdsA (rdsP ao9 qs9), boxA b8 1 34 (.agg #[.slice ao1 qs1.length cp1]), holdsA (rdsP ao1 qs1), boxA b3 8 42 (rV x), boxA b2 1 34 (.agg #[.slice ao ps.length co]), holdsA (rdsP ao ps)]) _) := ⟨HS.out⟩
      refine wl_mv HF rfl rfl rfl rfl rfl ?_;clear HF a;intro a HF
      refine wl_y rfl HF rfl rfl (yl_extract rfl (HF.ev rfl) rfl) ?_;clear HF a;intro a HF
      refine wl_y rfl HF rfl rfl (yl_extract rfl (HF.ev rfl) rfl) ?_;clear HF a;intro a HF
      refine wl_storeBox rfl HF rfl rfl (HF.ev rfl) (HF.ev rfl) HS.out 1 rfl (cells_lit [.slice ao5 qs5.length cp5] rfl rfl) (by kernel_rfl) ?_; clear HS; intro w25 HS; replace HS := Bx.mk HS
      have HS : Bx (St w0 ([holdsA (rdsP ao5 qs5), boxA b12 1 34 (.agg #[.slice ao5 qs5.length cp5]), holdsA (rdsP ao4 qs4), boxA b10 1 34 (.agg #[.slice ao9 qs9.length cp9]), holdsA (rdsP ao9 qs9), boxA b8 1 34 (.agg #[.slice ao1 qs1.length cp1]), holdsA (rdsP ao1 qs1), boxA b3 8 42 (rV x), boxA b2 1 34 (.agg #[.slice ao ps.length co]), holdsA (rdsP ao ps)]) _) := HS
      refine wl_ne ?_
      refine wp_sr ?_
      refine wl_y rfl HF rfl rfl (yl_loadR (cs := [.slice ao5 qs5.length cp5]) rfl (HF.ev rfl) ((HS.out.box 1 rfl).sub 0 1) (by kernel_rfl)) ?_;clear HF a;intro a HF
      refine wl_mv HF rfl rfl rfl rfl rfl ?_;clear HF a;intro a HF
      refine wl_callB rfl HF rfl (enter_of Tryz.func23 (by kernel_rfl) rfl) (args := #[.agg #[.slice ao5 qs5.length cp5], .int .i64 (m : Int)]) rfl (v := .tuple #[(rV x), .bool true]) ((by have := rootAtP_any ao5 cp5 qs5 _ (HT.out.below HS.out.bel) (HM.out.below HS.out.bel) (HE.out.below HS.out.bel) (by omega) hf5.at (HS.out.holds 0 rfl).1 (HS.out.holds 0 rfl).at (m : Int); rw [hr5] at this; exact this)) rfl rfl HS.out ?_; clear HF HS a; intro w26 a HS HF; replace HS := Bx.mk HS
      refine wl_mv HF rfl rfl rfl rfl rfl ?_;clear HF a;intro a HF
      refine wl_y rfl HF rfl rfl (yl_extract rfl (HF.ev rfl) rfl) ?_;clear HF a;intro a HF
      refine wl_y rfl HF rfl rfl (yl_extract rfl (HF.ev rfl) rfl) ?_;clear HF a;intro a HF
      refine wl_alloc rfl HF rfl rfl rfl (Z := [.int .i64 0, .int .i64 0, .int .i64 0, .int .i64 0, .int .i64 0, .int .i64 0, .int .i64 0, .int .i64 0]) (by kernel_rfl) rfl HS.out ?_; clear HF HS a; intro a w27 b14 HF HS; replace HS := Bx.mk HS
      refine wl_storeBox rfl HF rfl rfl (HF.ev rfl) (HF.ev rfl) HS.out 0 rfl (cells_lit [.int .i64 x.fTxg, .int .i64 x.fMeta.fRoot.fAt, .int .i64 x.fMeta.fRoot.fBirth, .int .i64 x.fMeta.fRoot.fSize, .int .i64 x.fMeta.fRoot.fSum, .int .i64 x.fMeta.fRoot.fLevel, .int .i64 x.fMeta.fDepth, .int .i64 x.fMeta.fMany] rfl rfl) (by kernel_rfl) ?_; clear HS; intro w28 HS; replace HS := Bx.mk HS
      have HS : Bx (St w0 ([boxA b14 8 42 (rV x), holdsA (rdsP ao5 qs5), boxA b12 1 34 (.agg #[.slice ao5 qs5.length cp5]), holdsA (rdsP ao4 qs4), boxA b10 1 34 (.agg #[.slice ao9 qs9.length cp9]), holdsA (rdsP ao9 qs9), boxA b8 1 34 (.agg #[.slice ao1 qs1.length cp1]), holdsA (rdsP ao1 qs1), boxA b3 8 42 (rV x), boxA b2 1 34 (.agg #[.slice ao ps.length co]), holdsA (rdsP ao ps)]) _) := HS
      refine wl_as HF rfl rfl rfl rfl rfl ?_;clear HF a;intro a HF
      refine wl_ne ?_
      refine wp_sr ?_
      refine wl_mv HF rfl rfl rfl rfl rfl ?_;clear HF a;intro a HF
      refine wl_y rfl HF rfl rfl (yl_not rfl (HF.ev rfl)) ?_;clear HF a;intro a HF
      refine wl_mv HF rfl rfl rfl rfl rfl ?_;clear HF a;intro a HF
      refine wl_yg HF rfl rfl rfl rfl rfl (yl_loadR (cs := [.int .i64 x.fTxg, .int .i64 x.fMeta.fRoot.fAt, .int .i64 x.fMeta.fRoot.fBirth, .int .i64 x.fMeta.fRoot.fSize, .int .i64 x.fMeta.fRoot.fSum, .int .i64 x.fMeta.fRoot.fLevel, .int .i64 x.fMeta.fDepth, .int .i64 x.fMeta.fMany]) rfl (HF.ev rfl) ((HS.out.box 0 rfl).sub 0 8) (by kernel_rfl)) ?_;clear HF a;intro a HF
      refine wl_yg HF rfl rfl rfl rfl rfl (yl_loadR (cs := [.int .i64 x.fTxg, .int .i64 x.fMeta.fRoot.fAt, .int .i64 x.fMeta.fRoot.fBirth, .int .i64 x.fMeta.fRoot.fSize, .int .i64 x.fMeta.fRoot.fSum, .int .i64 x.fMeta.fRoot.fLevel, .int .i64 x.fMeta.fDepth, .int .i64 x.fMeta.fMany]) rfl (HF.ev rfl) ((HS.out.box 8 rfl).sub 0 8) (by kernel_rfl)) ?_;clear HF a;intro a HF
      refine wl_yg HF rfl rfl rfl rfl rfl (yl_neqRoot x x rfl rfl (HF.ev rfl) (HF.ev rfl)) ?_;clear HF a;intro a HF
      refine wl_y rfl HF rfl rfl (yl_pick_f rfl (HF.ev rfl) (HF.ev rfl)) ?_;clear HF a;intro a HF
      refine wl_ne ?_
      refine wc_false HF rfl ?_
      refine wp_skip ?_
      refine ex_block ?_
      refine ex_then ?_
      refine wp_region_lit ?_
      refine wl_mv HF rfl rfl rfl rfl rfl ?_;clear HF a;intro a HF
      refine wl_y rfl HF rfl rfl (yl_addI rfl (HF.ev rfl) (HF.ev rfl) (i64w (by omega))) ?_;clear HF a;intro a HF
      refine wl_as HF rfl rfl rfl rfl rfl ?_;clear HF a;intro a HF
      refine wl_ne ?_
      replace HS:=Bx.mk (((((((HS.out.pick 10 rfl).pick 10 rfl).pick 10 rfl).pick 10 rfl).pick 10 rfl).pick 10 rfl).pick 10 rfl)
      exact ⟨k + 1, ⟨(by omega), HF.less _ ⟨rfl, rfl, rfl, rfl, rfl, rfl, rfl, rfl, rfl, rfl, trivial⟩, ((((HS.out.erase 10).erase 9).erase 8).erase 7)⟩, (by omega)⟩
     ·clear HF; have HF := HF1; clear HF1
      have dcc3 := of_decide_eq_false cc3
      refine wc_false HF rfl ?_
      refine wp_exit ?_
      refine ex_then_exit ?_
      refine ex_then_exit ?_
      refine ex_block_hit ?_
      refine ex_then ?_
      refine wp_seq ?_
      refine wp_sr ?_
      refine wl_as HF rfl rfl rfl rfl rfl ?_;clear HF a;intro a HF
      refine wl_ne ?_
      refine wp_block ?_
      refine wc_loop (ι := Nat) (fun k a w => (k ≤ 4) ∧ Fr 126 a [(2, .bool false), (3, .pointer (some ⟨b2, 0, none⟩)), (4, .pointer (some ⟨b3, 0, none⟩)), (5, .pointer (some ⟨b8, 0, none⟩)), (6, .bool true), (7, .pointer (some ⟨b10, 0, none⟩)), (8, .bool true), (9, .bool true), (10, .int .i64 (m : Int)), (16, .int .i64 (k : Int))] ∧ St w0 ([boxA b10 1 34 (.agg #[.slice ao9 qs9.length cp9]), holdsA (rdsP ao9 qs9), boxA b8 1 34 (.agg #[.slice ao1 qs1.length cp1]), holdsA (rdsP ao1 qs1), boxA b3 8 42 (rV x), boxA b2 1 34 (.agg #[.slice ao ps.length co]), holdsA (rdsP ao ps)]) w) (fun k => 4 - k) 0 ⟨(by omega), HF.less _ ⟨rfl, rfl, rfl, rfl, rfl, rfl, rfl, rfl, rfl, rfl, trivial⟩, HS.out⟩ ?_
      clear HF HS; clear a
      rintro k a w29 ⟨hk, HF, HS⟩
      replace HS := Bx.mk HS
      refine wp_seq ?_
      refine wp_sr ?_
      refine wl_mv HF rfl rfl rfl rfl rfl ?_;clear HF a;intro a HF
      refine wl_y rfl HF rfl rfl (yl_lssI rfl (HF.ev rfl) (HF.ev rfl)) ?_;clear HF a;intro a HF
      refine wl_ne ?_
      refine HF.cases 98 rfl (fun cc4 HF1 => ?_) (fun cc4 HF1 => ?_)
      ·clear HF; have HF := HF1; clear HF1
       have dcc4 := of_decide_eq_true cc4
       refine wc_true HF rfl ?_
       refine wp_skip ?_
       refine ex_then ?_
       refine wp_seq ?_
       refine wp_block ?_
       refine wp_sr ?_
       refine wl_y rfl HF rfl rfl (yl_loadR (cs := [.slice ao1 qs1.length cp1]) rfl (HF.ev rfl) ((HS.out.box 2 rfl).sub 0 1) (by kernel_rfl)) ?_;clear HF a;intro a HF
       refine wl_mv HF rfl rfl rfl rfl rfl ?_;clear HF a;intro a HF
       refine wl_callB rfl HF rfl (enter_of Tryz.func23 (by kernel_rfl) rfl) (args := #[.agg #[.slice ao1 qs1.length cp1], .int .i64 (k : Int)]) rfl (v := .tuple #[rV ((rootAtF (dsOf qs1) (k : Int)).1), .bool ((rootAtF (dsOf qs1) (k : Int)).2)]) ((rootAtP_any ao1 cp1 qs1 _ (HT.out.below HS.out.bel) (HM.out.below HS.out.bel) (HE.out.below HS.out.bel) (by omega) hf1.at (HS.out.holds 3 rfl).1 (HS.out.holds 3 rfl).at (k : Int))) rfl rfl HS.out ?_; clear HF HS a; intro w30 a HS HF; replace HS := Bx.mk HS
       refine wl_mv HF rfl rfl rfl rfl rfl ?_;clear HF a;intro a HF
       refine wl_y rfl HF rfl rfl (yl_extract rfl (HF.ev rfl) rfl) ?_;clear HF a;intro a HF
       refine wl_y rfl HF rfl rfl (yl_extract rfl (HF.ev rfl) rfl) ?_;clear HF a;intro a HF
       refine wl_alloc rfl HF rfl rfl rfl (Z := [.int .i64 0, .int .i64 0, .int .i64 0, .int .i64 0, .int .i64 0, .int .i64 0, .int .i64 0, .int .i64 0]) (by kernel_rfl) rfl HS.out ?_; clear HF HS a; intro a w31 b15 HF HS; replace HS := Bx.mk HS
       refine wl_storeBox rfl HF rfl rfl (HF.ev rfl) (HF.ev rfl) HS.out 0 rfl (cells_lit [.int .i64 ((rootAtF (dsOf qs1) (k : Int)).1.fTxg), .int .i64 ((rootAtF (dsOf qs1) (k : Int)).1.fMeta.fRoot.fAt), .int .i64 ((rootAtF (dsOf qs1) (k : Int)).1.fMeta.fRoot.fBirth), .int .i64 ((rootAtF (dsOf qs1) (k : Int)).1.fMeta.fRoot.fSize), .int .i64 ((rootAtF (dsOf qs1) (k : Int)).1.fMeta.fRoot.fSum), .int .i64 ((rootAtF (dsOf qs1) (k : Int)).1.fMeta.fRoot.fLevel), .int .i64 ((rootAtF (dsOf qs1) (k : Int)).1.fMeta.fDepth), .int .i64 ((rootAtF (dsOf qs1) (k : Int)).1.fMeta.fMany)] rfl rfl) (by kernel_rfl) ?_; clear HS; intro w32 HS; replace HS := Bx.mk HS
       have HS : Bx (St w0 ([boxA b15 8 42 (rV ((rootAtF (dsOf qs1) (k : Int)).1)), boxA b10 1 34 (.agg #[.slice ao9 qs9.length cp9]), holdsA (rdsP ao9 qs9), boxA b8 1 34 (.agg #[.slice ao1 qs1.length cp1]), holdsA (rdsP ao1 qs1), boxA b3 8 42 (rV x), boxA b2 1 34 (.agg #[.slice ao ps.length co]), holdsA (rdsP ao ps)]) _) := HS
       refine wl_as HF rfl rfl rfl rfl rfl ?_;clear HF a;intro a HF
       refine wl_ne ?_
       refine wp_sr ?_
       refine wl_y rfl HF rfl rfl (yl_loadR (cs := [.slice ao ps.length co]) rfl (HF.ev rfl) ((HS.out.box 6 rfl).sub 0 1) (by kernel_rfl)) ?_;clear HF a;intro a HF
       refine wl_mv HF rfl rfl rfl rfl rfl ?_;clear HF a;intro a HF
       refine wl_callB rfl HF rfl (enter_of Tryz.func23 (by kernel_rfl) rfl) (args := #[.agg #[.slice ao ps.length co], .int .i64 (k : Int)]) rfl (v := .tuple #[rV ((rootAtF (dsOf ps) (k : Int)).1), .bool ((rootAtF (dsOf ps) (k : Int)).2)]) ((rootAtP_any ao co ps _ (HT.out.below HS.out.bel) (HM.out.below HS.out.bel) (HE.out.below HS.out.bel) (by omega) hpf.at (HS.out.holds 7 rfl).1 (HS.out.holds 7 rfl).at (k : Int))) rfl rfl HS.out ?_; clear HF HS a; intro w33 a HS HF; replace HS := Bx.mk HS
       refine wl_mv HF rfl rfl rfl rfl rfl ?_;clear HF a;intro a HF
       refine wl_y rfl HF rfl rfl (yl_extract rfl (HF.ev rfl) rfl) ?_;clear HF a;intro a HF
       refine wl_y rfl HF rfl rfl (yl_extract rfl (HF.ev rfl) rfl) ?_;clear HF a;intro a HF
       refine wl_alloc rfl HF rfl rfl rfl (Z := [.int .i64 0, .int .i64 0, .int .i64 0, .int .i64 0, .int .i64 0, .int .i64 0, .int .i64 0, .int .i64 0]) (by kernel_rfl) rfl HS.out ?_; clear HF HS a; intro a w34 b16 HF HS; replace HS := Bx.mk HS
       refine wl_storeBox rfl HF rfl rfl (HF.ev rfl) (HF.ev rfl) HS.out 0 rfl (cells_lit [.int .i64 ((rootAtF (dsOf ps) (k : Int)).1.fTxg), .int .i64 ((rootAtF (dsOf ps) (k : Int)).1.fMeta.fRoot.fAt), .int .i64 ((rootAtF (dsOf ps) (k : Int)).1.fMeta.fRoot.fBirth), .int .i64 ((rootAtF (dsOf ps) (k : Int)).1.fMeta.fRoot.fSize), .int .i64 ((rootAtF (dsOf ps) (k : Int)).1.fMeta.fRoot.fSum), .int .i64 ((rootAtF (dsOf ps) (k : Int)).1.fMeta.fRoot.fLevel), .int .i64 ((rootAtF (dsOf ps) (k : Int)).1.fMeta.fDepth), .int .i64 ((rootAtF (dsOf ps) (k : Int)).1.fMeta.fMany)] rfl rfl) (by kernel_rfl) ?_; clear HS; intro w35 HS; replace HS := Bx.mk HS
       have HS : Bx (St w0 ([boxA b16 8 42 (rV ((rootAtF (dsOf ps) (k : Int)).1)), boxA b15 8 42 (rV ((rootAtF (dsOf qs1) (k : Int)).1)), boxA b10 1 34 (.agg #[.slice ao9 qs9.length cp9]), holdsA (rdsP ao9 qs9), boxA b8 1 34 (.agg #[.slice ao1 qs1.length cp1]), holdsA (rdsP ao1 qs1), boxA b3 8 42 (rV x), boxA b2 1 34 (.agg #[.slice ao ps.length co]), holdsA (rdsP ao ps)]) _) := HS
       refine wl_as HF rfl rfl rfl rfl rfl ?_;clear HF a;intro a HF
       refine wl_ne ?_
       refine wp_sr ?_
       refine wl_mv HF rfl rfl rfl rfl rfl ?_;clear HF a;intro a HF
       refine wl_mv HF rfl rfl rfl rfl rfl ?_;clear HF a;intro a HF
       refine wl_y rfl HF rfl rfl (yl_neqI rfl (HF.ev rfl) (HF.ev rfl)) ?_;clear HF a;intro a HF
       refine wl_mv HF rfl rfl rfl rfl rfl ?_;clear HF a;intro a HF
       refine HF.cases 116 rfl (fun cc5 HF1 => ?_) (fun cc5 HF1 => ?_)
       ·clear HF; have HF := HF1; clear HF1
        have hkm : k ≠ m := (by intro e; subst e; simp at cc5); have hoth : rootAtF (dsOf qs1) (k : Int) = rootAtF (dsOf ps) (k : Int) := hlaw.other hkm (by omega)
        refine wl_yg HF rfl rfl rfl rfl rfl (yl_move rfl (HF.ev rfl)) ?_;clear HF a;intro a HF
        refine wl_yg HF rfl rfl rfl rfl rfl (yl_move rfl (HF.ev rfl)) ?_;clear HF a;intro a HF
        refine wl_yg HF rfl rfl rfl rfl rfl (yl_neqB rfl (HF.ev rfl) (HF.ev rfl) (by kernel_rfl)) ?_;clear HF a;intro a HF
        refine wl_yg HF rfl rfl rfl rfl rfl (yl_move rfl (HF.ev rfl)) ?_;clear HF a;intro a HF
        refine HF.cases 120 rfl (fun cc6 HF1 => ?_) (fun cc6 HF1 => ?_)
        ·clear HF; have HF := HF1; clear HF1
         exact absurd cc6 (by rw [hoth]; simp)
        ·clear HF; have HF := HF1; clear HF1
         refine wl_yg HF rfl rfl rfl rfl rfl (yl_loadR (cs := [.int .i64 ((rootAtF (dsOf qs1) (k : Int)).1.fTxg), .int .i64 ((rootAtF (dsOf qs1) (k : Int)).1.fMeta.fRoot.fAt), .int .i64 ((rootAtF (dsOf qs1) (k : Int)).1.fMeta.fRoot.fBirth), .int .i64 ((rootAtF (dsOf qs1) (k : Int)).1.fMeta.fRoot.fSize), .int .i64 ((rootAtF (dsOf qs1) (k : Int)).1.fMeta.fRoot.fSum), .int .i64 ((rootAtF (dsOf qs1) (k : Int)).1.fMeta.fRoot.fLevel), .int .i64 ((rootAtF (dsOf qs1) (k : Int)).1.fMeta.fDepth), .int .i64 ((rootAtF (dsOf qs1) (k : Int)).1.fMeta.fMany)]) rfl (HF.ev rfl) ((HS.out.box 1 rfl).sub 0 8) (by kernel_rfl)) ?_;clear HF a;intro a HF
         refine wl_yg HF rfl rfl rfl rfl rfl (yl_loadR (cs := [.int .i64 ((rootAtF (dsOf ps) (k : Int)).1.fTxg), .int .i64 ((rootAtF (dsOf ps) (k : Int)).1.fMeta.fRoot.fAt), .int .i64 ((rootAtF (dsOf ps) (k : Int)).1.fMeta.fRoot.fBirth), .int .i64 ((rootAtF (dsOf ps) (k : Int)).1.fMeta.fRoot.fSize), .int .i64 ((rootAtF (dsOf ps) (k : Int)).1.fMeta.fRoot.fSum), .int .i64 ((rootAtF (dsOf ps) (k : Int)).1.fMeta.fRoot.fLevel), .int .i64 ((rootAtF (dsOf ps) (k : Int)).1.fMeta.fDepth), .int .i64 ((rootAtF (dsOf ps) (k : Int)).1.fMeta.fMany)]) rfl (HF.ev rfl) ((HS.out.box 0 rfl).sub 0 8) (by kernel_rfl)) ?_;clear HF a;intro a HF
         refine wl_yg HF rfl rfl rfl rfl rfl (yl_neqRoot (rootAtF (dsOf qs1) (k : Int)).1 (rootAtF (dsOf ps) (k : Int)).1 (by rw [hoth]) rfl (HF.ev rfl) (HF.ev rfl)) ?_;clear HF a;intro a HF
         refine wl_yg HF rfl rfl rfl rfl rfl (yl_pick_f rfl (HF.ev rfl) (HF.ev rfl)) ?_;clear HF a;intro a HF
         refine wl_y rfl HF rfl rfl (yl_pick_t rfl (HF.ev rfl) (HF.ev rfl)) ?_;clear HF a;intro a HF
         refine wl_ne ?_
         refine wc_false HF rfl ?_
         refine wp_skip ?_
         refine ex_block ?_
         refine ex_then ?_
         refine wp_region_lit ?_
         refine wl_mv HF rfl rfl rfl rfl rfl ?_;clear HF a;intro a HF
         refine wl_y rfl HF rfl rfl (yl_addI rfl (HF.ev rfl) (HF.ev rfl) (i64w (by omega))) ?_;clear HF a;intro a HF
         refine wl_as HF rfl rfl rfl rfl rfl ?_;clear HF a;intro a HF
         refine wl_ne ?_
         replace HS:=Bx.mk (((((((HS.out.pick 8 rfl).pick 8 rfl).pick 8 rfl).pick 8 rfl).pick 8 rfl).pick 8 rfl).pick 8 rfl)
         exact ⟨k + 1, ⟨(by omega), HF.less _ ⟨rfl, rfl, rfl, rfl, rfl, rfl, rfl, rfl, rfl, rfl, trivial⟩, ((HS.out.erase 8).erase 7)⟩, (by omega)⟩
       ·clear HF; have HF := HF1; clear HF1
        refine wl_skip HF rfl rfl rfl rfl rfl rfl ?_;clear HF a;intro a HF
        refine wl_skip HF rfl rfl rfl rfl rfl rfl ?_;clear HF a;intro a HF
        refine wl_skip HF rfl rfl rfl rfl rfl rfl ?_;clear HF a;intro a HF
        refine wl_skip HF rfl rfl rfl rfl rfl rfl ?_;clear HF a;intro a HF
        refine wl_skipU HF rfl rfl rfl rfl rfl ?_;clear HF a;intro a HF
        refine wl_skipU HF rfl rfl rfl rfl rfl ?_;clear HF a;intro a HF
        refine wl_skipU HF rfl rfl rfl rfl rfl ?_;clear HF a;intro a HF
        refine wl_skip HF rfl rfl rfl rfl rfl rfl ?_;clear HF a;intro a HF
        refine wl_y rfl HF rfl rfl (yl_pick_f rfl (HF.ev rfl) (HF.ev rfl)) ?_;clear HF a;intro a HF
        refine wl_ne ?_
        refine wc_false HF rfl ?_
        refine wp_skip ?_
        refine ex_block ?_
        refine ex_then ?_
        refine wp_region_lit ?_
        refine wl_mv HF rfl rfl rfl rfl rfl ?_;clear HF a;intro a HF
        refine wl_y rfl HF rfl rfl (yl_addI rfl (HF.ev rfl) (HF.ev rfl) (i64w (by omega))) ?_;clear HF a;intro a HF
        refine wl_as HF rfl rfl rfl rfl rfl ?_;clear HF a;intro a HF
        refine wl_ne ?_
        replace HS:=Bx.mk (((((((HS.out.pick 8 rfl).pick 8 rfl).pick 8 rfl).pick 8 rfl).pick 8 rfl).pick 8 rfl).pick 8 rfl)
        exact ⟨k + 1, ⟨(by omega), HF.less _ ⟨rfl, rfl, rfl, rfl, rfl, rfl, rfl, rfl, rfl, rfl, trivial⟩, ((HS.out.erase 8).erase 7)⟩, (by omega)⟩
      ·clear HF; have HF := HF1; clear HF1
       have dcc4 := of_decide_eq_false cc4
       refine wc_false HF rfl ?_
       refine wp_exit ?_
       refine ex_then_exit ?_
       refine ex_then_exit ?_
       refine ex_block_hit ?_
       refine ex_then ?_
       refine wp_sr ?_
       refine wl_as HF rfl rfl rfl rfl rfl ?_;clear HF a;intro a HF
       refine wl_ne ?_
       refine wp_ret ?_
       refine bp_ret1 HF Tryz.results5 (HF.res rfl) ?_
       exact ⟨rfl, HS.out.bel⟩

end Go.Proofs.YtoaopmkbfifhaaaGreatDoor
