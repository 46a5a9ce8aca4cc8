/- A part of the proof in YtoaopmkbfifhaaaGreatDoorRwLZ29. -/
import Derived.Test.YtoaopmkbfifhaaaGreatDoorRwLZ23
/- Drawing texts and rows. -/
namespace Go.Proofs.YtoaopmkbfifhaaaGreatDoor
set_option linter.unusedVariables false
set_option linter.unusedSimpArgs false
set_option maxHeartbeats 1000000
set_option maxRecDepth 100000
open Go.RowKit

theorem l91Row_any (w0 w : World) (rb : Nat) (ab : Option Addr) (n cb : Nat) (bs : List UInt8) (hn : n ≤ 2000) (hR : Rd encB 1 w0 ab n bs) (B : Nat) (hB : B ≤ 900000) (F : List Asr) (hS : St w0 (rdA rb ab n cb B :: F) w) : Calls Tryz.prog 141 #[.pointer (some ⟨rb, 0, none⟩)] w fun e w' => ∃ v : Int, e = .returned (.int .i64 v) ∧ -1 ≤ v ∧ v ≤ 64 ∧ St w0 (rdA rb ab n cb (B + 2) :: F) w' := by
 have HS := Bx.mk hS; clear hS
 refine wc_enter Tryz.func141 rfl Tryz.ntmps141 [(0, .pointer (some ⟨rb, 0, none⟩))] ⟨rfl, trivial⟩ rfl ?_; intro a HF
 refine wp_sr ?_
 refine wl_as HF rfl rfl rfl rfl rfl ?_;clear HF a;intro a HF
 refine wl_ne ?_
 refine wp_seq ?_
 refine wp_sr ?_
 refine wl_mv HF rfl rfl rfl rfl rfl ?_;clear HF a;intro a HF
 replace HS:=Bx.mk (HS.out.pick 0 rfl)
 refine wl_call rfl HF rfl (enter_of Tryz.func94 (by kernel_rfl) rfl) (args := #[.pointer (some ⟨rb, 0, none⟩), .int .i64 8]) rfl (pickN w0 _ rb ab n cb bs hn hR B (by omega) 8 (by omega) _ HS.out) rfl rfl ?_
 rintro _ w1 ⟨dn1, rfl, hu1, hs1⟩
 refine ⟨_, rfl, ?_⟩; replace HS := Bx.mk hs1; clear hs1 HF; clear a; intro a HF
 replace HS : Bx (St w0 (rdA rb ab n cb (B + 1) :: F) _) := ⟨HS.out⟩
 refine wl_y rfl HF rfl rfl (yl_eqlI rfl (HF.ev rfl) (HF.ev rfl)) ?_;clear HF a;intro a HF
 refine wl_ne ?_
 refine HF.cases 5 rfl (fun cc1 HF1 => ?_) (fun cc1 HF1 => ?_)
 ·clear HF; have HF := HF1; clear HF1
  have dcc1 := eq_of_beq cc1
  refine wc_true HF rfl ?_
  refine wp_seq ?_
  have hl6 : [(-1 : Int), 0, 3, 7, 64, 63].length = 6 := rfl; have hrow : ∀ k, k < 6 → -1 ≤ [(-1 : Int), 0, 3, 7, 64, 63].getD k 0 ∧ [(-1 : Int), 0, 3, 7, 64, 63].getD k 0 ≤ 64 := by decide
  refine wp_region_lit ?_
  refine wl_buildS (enc := encI) (e := 3) (size := 1) rfl HF rfl rfl rfl (ps := [(0, .int .i64 (-1)), (1, .int .i64 0), (2, .int .i64 3), (3, .int .i64 7), (4, .int .i64 64), (5, .int .i64 63)]) rfl (cells := [.int .i64 (-1), .int .i64 0, .int .i64 3, .int .i64 7, .int .i64 64, .int .i64 63]) (by kernel_rfl) [-1, 0, 3, 7, 64, 63] rfl rfl (by unfold maxLen; omega) rfl HS.out ?_; clear HF HS a; intro b2 a w2 HF HS; replace HS := Bx.mk HS
  refine wl_mv HF rfl rfl rfl rfl rfl ?_;clear HF a;intro a HF
  replace HS:=Bx.mk (HS.out.pick 1 rfl)
  refine wl_call rfl HF rfl (enter_of Tryz.func94 (by kernel_rfl) rfl) (args := #[.pointer (some ⟨rb, 0, none⟩), .int .i64 6]) rfl (pickN w0 _ rb ab n cb bs hn hR (B + 1) (by omega) 6 (by omega) _ HS.out) rfl rfl ?_
  rintro _ w3 ⟨dn3, rfl, hu3, hs1⟩
  refine ⟨_, rfl, ?_⟩; replace HS := Bx.mk hs1; clear hs1 HF; clear a; intro a HF
  replace HS : Bx (St w0 (rdA rb ab n cb (B + 1 + 1) :: rowA encI 1 3 (.slice (some ⟨b2, 0, none⟩) 6 6) ([-1, 0, 3, 7, 64, 63]) :: F) _) := ⟨HS.out⟩
  refine wl_y rfl HF rfl rfl (yl_indexAddr (e := 3) (i := dn3) (size := 1) rfl (HF.ev rfl) (HF.ev rfl) (by kernel_rfl) rfl (by omega)) ?_;clear HF a;intro a HF
  refine wl_y rfl HF rfl rfl (yl_load (v := .int .i64 (([-1, 0, 3, 7, 64, 63]).getD dn3 0)) rfl (HF.ev rfl) (HS.out.elem1 encI_len 1 rfl (get_getD (xs := [-1, 0, 3, 7, 64, 63]) (j := dn3) (d := 0) (by omega)) rfl) (by kernel_rfl)) ?_;clear HF a;intro a HF
  refine wl_as HF rfl rfl rfl rfl rfl ?_;clear HF a;intro a HF
  refine wl_ne ?_
  refine wp_ret ?_
  refine ex_then_ret ?_
  refine bp_ret1 HF Tryz.results141 (HF.res rfl) ?_
  replace HS:=Bx.mk (HS.out.pick 0 rfl)
  exact ⟨_, rfl, (hrow dn3 (by omega)).1, (hrow dn3 (by omega)).2, ((HS.out.rdLe (B' := B + 2) (by omega)).erase 1)⟩
 ·clear HF; have HF := HF1; clear HF1
  have dcc1 := ne_of_beq_false cc1
  refine wc_false HF rfl ?_
  refine wp_skip ?_
  refine ex_then ?_
  refine wp_sr ?_
  refine wl_mv HF rfl rfl rfl rfl rfl ?_;clear HF a;intro a HF
  replace HS:=Bx.mk (HS.out.pick 0 rfl)
  refine wl_call rfl HF rfl (enter_of Tryz.func94 (by kernel_rfl) rfl) (args := #[.pointer (some ⟨rb, 0, none⟩), .int .i64 12]) rfl (pickN w0 _ rb ab n cb bs hn hR (B + 1) (by omega) 12 (by omega) _ HS.out) rfl rfl ?_
  rintro _ w4 ⟨dn4, rfl, hu4, hs1⟩
  refine ⟨_, rfl, ?_⟩; replace HS := Bx.mk hs1; clear hs1 HF; clear a; intro a HF
  replace HS : Bx (St w0 (rdA rb ab n cb (B + 1 + 1) :: F) _) := ⟨HS.out⟩
  refine wl_y rfl HF rfl rfl (yl_addI rfl (HF.ev rfl) (HF.ev rfl) (i64w (by omega))) ?_;clear HF a;intro a HF
  refine wl_as HF rfl rfl rfl rfl rfl ?_;clear HF a;intro a HF
  refine wl_ne ?_
  refine wp_ret ?_
  refine bp_ret1 HF Tryz.results141 (HF.res rfl) ?_
  replace HS:=Bx.mk (HS.out.pick 0 rfl)
  exact ⟨_, rfl, by omega, by omega, (HS.out.rdLe (B' := B + 2) (by omega))⟩

theorem l91Text_any (w0 w : World) (rb : Nat) (ab : Option Addr) (n cb : Nat) (bs : List UInt8) (hn : n ≤ 2000) (hR : Rd encB 1 w0 ab n bs) (B : Nat) (hB : B ≤ 900000) (m : Nat) (hm : m ≤ 1000) (F : List Asr) (hS : St w0 (rdA rb ab n cb B :: F) w) : Calls Tryz.prog 138 #[.pointer (some ⟨rb, 0, none⟩), .int .i64 (m : Int)] w fun e w' => ∃ t : ByteArray, e = .returned (.string t) ∧ t.size ≤ m ∧ St w0 (rdA rb ab n cb (B + (2 + 2 * m)) :: F) w' := by
 have HS := Bx.mk hS; clear hS
 refine wc_enter Tryz.func138 rfl Tryz.ntmps138 [(0, .pointer (some ⟨rb, 0, none⟩)), (1, .int .i64 (m : Int))] ⟨rfl, rfl, trivial⟩ rfl ?_; intro a HF
 refine wp_sr ?_
 refine wl_as HF rfl rfl rfl rfl rfl ?_;clear HF a;intro a HF
 refine wl_ne ?_
 refine wp_sr ?_
 refine wl_empty (e := 5) (size := 1) rfl HF rfl rfl rfl (by kernel_rfl) HS.out ?_; clear HF HS a; intro a w1 b1 HF HS; replace HS := Bx.mk HS
 refine wl_as HF rfl rfl rfl rfl rfl ?_;clear HF a;intro a HF
 refine wl_ne ?_
 refine wp_sr ?_
 refine wl_mv HF rfl rfl rfl rfl rfl ?_;clear HF a;intro a HF
 refine wl_mv HF rfl rfl rfl rfl rfl ?_;clear HF a;intro a HF
 refine wl_y rfl HF rfl rfl (yl_addI rfl (HF.ev rfl) (HF.ev rfl) (i64w (by omega))) ?_;clear HF a;intro a HF
 replace HS:=Bx.mk (HS.out.pick 0 rfl)
 refine wl_call rfl HF rfl (enter_of Tryz.func94 (by kernel_rfl) rfl) (args := #[.pointer (some ⟨rb, 0, none⟩), .int .i64 ((m : Int) + 1)]) rfl (pickN w0 _ rb ab n cb bs hn hR B (by omega) ((m : Int) + 1) (by omega) _ HS.out) rfl rfl ?_
 rintro _ w2 ⟨dn2, rfl, hu2, hs1⟩
 refine ⟨_, rfl, ?_⟩; replace HS := Bx.mk hs1; clear hs1 HF; clear a; intro a HF
 replace HS : Bx (St w0 (rdA rb ab n cb (B + 1) :: F) _) := ⟨HS.out⟩
 refine wl_as HF rfl rfl rfl rfl rfl ?_;clear HF a;intro a HF
 refine wl_ne ?_
 refine wp_sr ?_
 refine wl_mv HF rfl rfl rfl rfl rfl ?_;clear HF a;intro a HF
 replace HS:=Bx.mk (HS.out.pick 0 rfl)
 refine wl_call rfl HF rfl (enter_of Tryz.func94 (by kernel_rfl) rfl) (args := #[.pointer (some ⟨rb, 0, none⟩), .int .i64 4]) rfl (pickN w0 _ rb ab n cb bs hn hR (B + 1) (by omega) 4 (by omega) _ HS.out) rfl rfl ?_
 rintro _ w3 ⟨dn3, rfl, hu3, hs1⟩
 refine ⟨_, rfl, ?_⟩; replace HS := Bx.mk hs1; clear hs1 HF; clear a; intro a HF
 replace HS : Bx (St w0 (rdA rb ab n cb (B + 1 + 1) :: F) _) := ⟨HS.out⟩
 refine wl_as HF rfl rfl rfl rfl rfl ?_;clear HF a;intro a HF
 refine wl_ne ?_
 refine wp_seq ?_
 refine wp_block ?_
 replace HS := Bx.mk (HS.out.nilRow encB 1 5 (some ⟨b1, 0, none⟩)); replace HS := Bx.mk (show St w0 (rowA encB 1 5 (.slice (some ⟨b1, 0, none⟩) 0 0) ([]) :: rdA rb ab n cb (B + 2 + 2 * 0) :: F) _ from (HS.out.swap.rdLe (B' := B + 2 + 2 * 0) (by omega)).swap)
 refine wc_loop (ι := Nat) (fun k a w => ∃ (ao : Option Addr) (cp : Nat) (xs : List UInt8), (xs.length = k ∧ k ≤ dn2) ∧ Fr 72 a [(0, .pointer (some ⟨rb, 0, none⟩)), (1, .int .i64 (m : Int)), (4, .string (⟨#[]⟩ : ByteArray)), (5, .slice ao xs.length cp), (6, .int .i64 (dn2 : Int)), (7, .int .i64 (dn3 : Int))] ∧ St w0 (rowA encB 1 5 (.slice ao xs.length cp) xs :: rdA rb ab n cb (B + 2 + 2 * k) :: F) w) (fun k => dn2 - k) 0 ⟨_, _, [], ⟨rfl, Nat.zero_le _⟩, HF.less _ ⟨rfl, rfl, rfl, rfl, rfl, rfl, trivial⟩, HS.out⟩ ?_
 clear HF HS; clear a
 rintro k a w4 ⟨ao, cp, xs, ⟨hxl, hk⟩, HF, HS⟩
 replace HS := Bx.mk HS
 refine wp_seq ?_
 refine wp_sr ?_
 refine wl_mv HF rfl rfl rfl rfl rfl ?_;clear HF a;intro a HF
 refine wl_y rfl HF rfl rfl (yl_lenL (e := 5) (size := 1) rfl (HF.ev rfl) (by kernel_rfl)) ?_;clear HF a;intro a HF
 refine wl_mv HF rfl rfl rfl rfl rfl ?_;clear HF a;intro a HF
 refine wl_y rfl HF rfl rfl (yl_lssI rfl (HF.ev rfl) (HF.ev rfl)) ?_;clear HF a;intro a HF
 refine wl_ne ?_
 refine HF.cases 20 rfl (fun cc1 HF1 => ?_) (fun cc1 HF1 => ?_)
 ·clear HF; have HF := HF1; clear HF1
  have dcc1 := of_decide_eq_true cc1
  refine wc_true HF rfl ?_
  refine wp_skip ?_
  refine ex_then ?_
  refine wp_block ?_
  refine wp_sr ?_
  refine wl_mv HF rfl rfl rfl rfl rfl ?_;clear HF a;intro a HF
  refine wl_ne ?_
  refine wp_block ?_
  refine wp_sr ?_
  refine wl_y rfl HF rfl rfl (yl_eqlI rfl (HF.ev rfl) (HF.ev rfl)) ?_;clear HF a;intro a HF
  refine wl_as HF rfl rfl rfl rfl rfl ?_;clear HF a;intro a HF
  refine wl_ne ?_
  refine HF.cases 29 rfl (fun cc2 HF1 => ?_) (fun cc2 HF1 => ?_)
  ·clear HF; have HF := HF1; clear HF1
   have dcc2 := eq_of_beq cc2
   refine wc_true HF rfl ?_
   refine wp_region_lit ?_
   refine wl_mv HF rfl rfl rfl rfl rfl ?_;clear HF a;intro a HF
   refine wl_mv HF rfl rfl rfl rfl rfl ?_;clear HF a;intro a HF
   replace HS:=Bx.mk (HS.out.pick 1 rfl)
   refine wl_call rfl HF rfl (enter_of Tryz.func94 (by kernel_rfl) rfl) (args := #[.pointer (some ⟨rb, 0, none⟩), .int .i64 256]) rfl (pickN w0 _ rb ab n cb bs hn hR (B + 2 + 2 * k) (by omega) 256 (by omega) _ HS.out) rfl rfl ?_
   rintro _ w5 ⟨dn4, rfl, hu4, hs1⟩
   refine ⟨_, rfl, ?_⟩; replace HS := Bx.mk hs1; clear hs1 HF; clear a; intro a HF
   replace HS : Bx (St w0 (rdA rb ab n cb (B + 2 + 2 * k + 1) :: rowA encB 1 5 (.slice ao xs.length cp) xs :: F) _) := ⟨HS.out⟩
   refine wl_y rfl HF rfl rfl (yl_toU8 (b := UInt8.ofNat (dn4 : Int).toNat) rfl (HF.ev rfl) (by omega) rfl (by kernel_rfl) (by kernel_rfl)) ?_;clear HF a;intro a HF
   refine wl_buildS (enc := encB) (e := 5) (size := 1) rfl HF rfl rfl rfl (ps := [(0, .int .u8 ((UInt8.ofNat (dn4 : Int).toNat).toNat : Int))]) rfl (cells := [.int .u8 ((UInt8.ofNat (dn4 : Int).toNat).toNat : Int)]) (by kernel_rfl) [(UInt8.ofNat (dn4 : Int).toNat)] rfl rfl (by unfold maxLen; omega) rfl HS.out ?_; clear HF HS a; intro b5 a w6 HF HS; replace HS := Bx.mk HS
   refine wl_appL rfl HF rfl rfl rfl (HF.ev rfl) (HF.ev rfl) elemB encB_len HS.out 2 (xs := xs) rfl (ys := [(UInt8.ofNat (dn4 : Int).toNat)]) (St.rdN HS.out encB_len 0 rfl) (cells_one_B _) (by unfold maxLen; simp only [List.length_cons, List.length_nil]; omega) (by simp only [List.length_cons, List.length_nil]; omega) ?_; clear HF HS a; intro ao6 cp7 w7 a HF HS; replace HS := Bx.mk HS
   replace HS : Bx (St w0 (rowA encB 1 5 (.slice (some ⟨b5, 0, none⟩) 1 1) ([(UInt8.ofNat (dn4 : Int).toNat)]) :: rdA rb ab n cb (B + 2 + 2 * k + 1) :: rowA encB 1 5 (.slice ao6 (xs.length + ([(UInt8.ofNat (dn4 : Int).toNat)]).length) cp7) (xs ++ ([(UInt8.ofNat (dn4 : Int).toNat)])) :: F) _) := ⟨HS.out⟩
   refine wl_as HF rfl rfl rfl rfl rfl ?_;clear HF a;intro a HF
   refine wpList_nil ?_
   refine ex_block ?_
   refine ex_block ?_
   refine ex_then ?_
   have hz : xs.length + ([(UInt8.ofNat (dn4 : Int).toNat)]).length = (xs ++ ([(UInt8.ofNat (dn4 : Int).toNat)])).length := (List.length_append ..).symm
   rw [hz] at HS HF
   replace HS:=Bx.mk ((HS.out.pick 2 rfl).pick 2 rfl)
   replace HS := Bx.mk (HS.out.rdLe (B' := B + 2 + 2 * (k + 1)) (by omega)).swap
   replace HS : Bx (St w0 (rowA encB 1 5 (.slice ao6 ((xs ++ ([(UInt8.ofNat (dn4 : Int).toNat)])).length) cp7) (xs ++ ([(UInt8.ofNat (dn4 : Int).toNat)])) :: rdA rb ab n cb (B + 2 + 2 * (k + 1)) :: rowA encB 1 5 (.slice (some ⟨b5, 0, none⟩) 1 1) ([(UInt8.ofNat (dn4 : Int).toNat)]) :: F) _) := ⟨HS.out⟩
   replace HS := Bx.mk ((HS.out.erase 2))
   exact ⟨k + 1, ⟨_, _, xs ++ ([(UInt8.ofNat (dn4 : Int).toNat)]), ⟨by simp [hxl], by omega⟩, HF.less _ ⟨rfl, rfl, rfl, rfl, rfl, rfl, trivial⟩, HS.out⟩, (by omega)⟩
  ·clear HF; have HF := HF1; clear HF1
   have dcc2 := ne_of_beq_false cc2
   refine wc_false HF rfl ?_
   refine wp_sr ?_
   refine wl_y rfl HF rfl rfl (yl_eqlI rfl (HF.ev rfl) (HF.ev rfl)) ?_;clear HF a;intro a HF
   refine wl_as HF rfl rfl rfl rfl rfl ?_;clear HF a;intro a HF
   refine wl_ne ?_
   refine HF.cases 37 rfl (fun cc3 HF1 => ?_) (fun cc3 HF1 => ?_)
   ·clear HF; have HF := HF1; clear HF1
    have dcc3 := eq_of_beq cc3
    refine wc_true HF rfl ?_
    have hl7 : [(97 : UInt8), (98 : UInt8), (126 : UInt8), (48 : UInt8), (58 : UInt8), (59 : UInt8), (61 : UInt8)].length = 7 := rfl
    refine wp_region_lit ?_
    refine wl_mv HF rfl rfl rfl rfl rfl ?_;clear HF a;intro a HF
    refine wl_buildS (enc := encB) (e := 5) (size := 1) rfl HF rfl rfl rfl (ps := [(0, .int .u8 97), (1, .int .u8 98), (2, .int .u8 126), (3, .int .u8 48), (4, .int .u8 58), (5, .int .u8 59), (6, .int .u8 61)]) rfl (cells := [.int .u8 97, .int .u8 98, .int .u8 126, .int .u8 48, .int .u8 58, .int .u8 59, .int .u8 61]) (by kernel_rfl) [(97 : UInt8), (98 : UInt8), (126 : UInt8), (48 : UInt8), (58 : UInt8), (59 : UInt8), (61 : UInt8)] rfl rfl (by unfold maxLen; omega) rfl HS.out ?_; clear HF HS a; intro b8 a w8 HF HS; replace HS := Bx.mk HS
    refine wl_convSl (e := 5) rfl HF rfl rfl rfl (HF.ev rfl) (by kernel_rfl) (by kernel_rfl) HS.out 0 rfl (by decide) ?_; clear HF HS a; intro w9 a HF HS; replace HS := Bx.mk HS
    replace HS : Bx (St w0 (romA encB 1 b8 ([(97 : UInt8), (98 : UInt8), (126 : UInt8), (48 : UInt8), (58 : UInt8), (59 : UInt8), (61 : UInt8)]) :: rowA encB 1 5 (.slice ao xs.length cp) xs :: rdA rb ab n cb (B + 2 + 2 * k) :: F) _) := ⟨HS.out⟩
    refine wl_mv HF rfl rfl rfl rfl rfl ?_;clear HF a;intro a HF
    replace HS:=Bx.mk (HS.out.pick 2 rfl)
    refine wl_call rfl HF rfl (enter_of Tryz.func94 (by kernel_rfl) rfl) (args := #[.pointer (some ⟨rb, 0, none⟩), .int .i64 7]) rfl (pickN w0 _ rb ab n cb bs hn hR (B + 2 + 2 * k) (by omega) 7 (by omega) _ HS.out) rfl rfl ?_
    rintro _ w10 ⟨dn9, rfl, hu9, hs1⟩
    refine ⟨_, rfl, ?_⟩; replace HS := Bx.mk hs1; clear hs1 HF; clear a; intro a HF
    replace HS : Bx (St w0 (rdA rb ab n cb (B + 2 + 2 * k + 1) :: romA encB 1 b8 ([(97 : UInt8), (98 : UInt8), (126 : UInt8), (48 : UInt8), (58 : UInt8), (59 : UInt8), (61 : UInt8)]) :: rowA encB 1 5 (.slice ao xs.length cp) xs :: F) _) := ⟨HS.out⟩
    refine wl_y rfl HF rfl rfl (yl_indexAddr (e := 5) (i := dn9) (size := 1) rfl (HF.ev rfl) (HF.ev rfl) (by kernel_rfl) rfl (by omega)) ?_;clear HF a;intro a HF
    refine wl_y rfl HF rfl rfl (yl_load (v := .int .u8 ((([(97 : UInt8), (98 : UInt8), (126 : UInt8), (48 : UInt8), (58 : UInt8), (59 : UInt8), (61 : UInt8)]).getD dn9 0).toNat : Int)) rfl (HF.ev rfl) (HS.out.rom1 encB_len 1 rfl (get_getD (xs := [(97 : UInt8), (98 : UInt8), (126 : UInt8), (48 : UInt8), (58 : UInt8), (59 : UInt8), (61 : UInt8)]) (j := dn9) (d := 0) (by omega)) rfl) (by kernel_rfl)) ?_;clear HF a;intro a HF
    refine wl_buildS (enc := encB) (e := 5) (size := 1) rfl HF rfl rfl rfl (ps := [(0, .int .u8 ((([(97 : UInt8), (98 : UInt8), (126 : UInt8), (48 : UInt8), (58 : UInt8), (59 : UInt8), (61 : UInt8)]).getD dn9 0).toNat : Int))]) rfl (cells := [.int .u8 ((([(97 : UInt8), (98 : UInt8), (126 : UInt8), (48 : UInt8), (58 : UInt8), (59 : UInt8), (61 : UInt8)]).getD dn9 0).toNat : Int)]) (by kernel_rfl) [(([(97 : UInt8), (98 : UInt8), (126 : UInt8), (48 : UInt8), (58 : UInt8), (59 : UInt8), (61 : UInt8)]).getD dn9 0)] rfl rfl (by unfold maxLen; omega) rfl HS.out ?_; clear HF HS a; intro b10 a w11 HF HS; replace HS := Bx.mk HS
    refine wl_appL rfl HF rfl rfl rfl (HF.ev rfl) (HF.ev rfl) elemB encB_len HS.out 3 (xs := xs) rfl (ys := [(([(97 : UInt8), (98 : UInt8), (126 : UInt8), (48 : UInt8), (58 : UInt8), (59 : UInt8), (61 : UInt8)]).getD dn9 0)]) (St.rdN HS.out encB_len 0 rfl) (cells_one_B _) (by unfold maxLen; simp only [List.length_cons, List.length_nil]; omega) (by simp only [List.length_cons, List.length_nil]; omega) ?_; clear HF HS a; intro ao11 cp12 w12 a HF HS; replace HS := Bx.mk HS
    replace HS : Bx (St w0 (rowA encB 1 5 (.slice (some ⟨b10, 0, none⟩) 1 1) ([(([(97 : UInt8), (98 : UInt8), (126 : UInt8), (48 : UInt8), (58 : UInt8), (59 : UInt8), (61 : UInt8)]).getD dn9 0)]) :: rdA rb ab n cb (B + 2 + 2 * k + 1) :: romA encB 1 b8 ([(97 : UInt8), (98 : UInt8), (126 : UInt8), (48 : UInt8), (58 : UInt8), (59 : UInt8), (61 : UInt8)]) :: rowA encB 1 5 (.slice ao11 (xs.length + ([(([(97 : UInt8), (98 : UInt8), (126 : UInt8), (48 : UInt8), (58 : UInt8), (59 : UInt8), (61 : UInt8)]).getD dn9 0)]).length) cp12) (xs ++ ([(([(97 : UInt8), (98 : UInt8), (126 : UInt8), (48 : UInt8), (58 : UInt8), (59 : UInt8), (61 : UInt8)]).getD dn9 0)])) :: F) _) := ⟨HS.out⟩
    refine wl_as HF rfl rfl rfl rfl rfl ?_;clear HF a;intro a HF
    refine wpList_nil ?_
    refine ex_block ?_
    refine ex_block ?_
    refine ex_then ?_
    have hz : xs.length + ([(([(97 : UInt8), (98 : UInt8), (126 : UInt8), (48 : UInt8), (58 : UInt8), (59 : UInt8), (61 : UInt8)]).getD dn9 0)]).length = (xs ++ ([(([(97 : UInt8), (98 : UInt8), (126 : UInt8), (48 : UInt8), (58 : UInt8), (59 : UInt8), (61 : UInt8)]).getD dn9 0)])).length := (List.length_append ..).symm
    rw [hz] at HS HF
    replace HS:=Bx.mk ((HS.out.pick 3 rfl).pick 2 rfl)
    replace HS := Bx.mk (HS.out.rdLe (B' := B + 2 + 2 * (k + 1)) (by omega)).swap
    replace HS : Bx (St w0 (rowA encB 1 5 (.slice ao11 ((xs ++ ([(([(97 : UInt8), (98 : UInt8), (126 : UInt8), (48 : UInt8), (58 : UInt8), (59 : UInt8), (61 : UInt8)]).getD dn9 0)])).length) cp12) (xs ++ ([(([(97 : UInt8), (98 : UInt8), (126 : UInt8), (48 : UInt8), (58 : UInt8), (59 : UInt8), (61 : UInt8)]).getD dn9 0)])) :: rdA rb ab n cb (B + 2 + 2 * (k + 1)) :: rowA encB 1 5 (.slice (some ⟨b10, 0, none⟩) 1 1) ([(([(97 : UInt8), (98 : UInt8), (126 : UInt8), (48 : UInt8), (58 : UInt8), (59 : UInt8), (61 : UInt8)]).getD dn9 0)]) :: romA encB 1 b8 ([(97 : UInt8), (98 : UInt8), (126 : UInt8), (48 : UInt8), (58 : UInt8), (59 : UInt8), (61 : UInt8)]) :: F) _) := ⟨HS.out⟩
    replace HS := Bx.mk (((HS.out.erase 3).erase 2))
    exact ⟨k + 1, ⟨_, _, xs ++ ([(([(97 : UInt8), (98 : UInt8), (126 : UInt8), (48 : UInt8), (58 : UInt8), (59 : UInt8), (61 : UInt8)]).getD dn9 0)]), ⟨by simp [hxl], by omega⟩, HF.less _ ⟨rfl, rfl, rfl, rfl, rfl, rfl, trivial⟩, HS.out⟩, (by omega)⟩
   ·clear HF; have HF := HF1; clear HF1
    have dcc3 := ne_of_beq_false cc3
    refine wc_false HF rfl ?_
    refine wp_sr ?_
    refine wl_y rfl HF rfl rfl (yl_eqlI rfl (HF.ev rfl) (HF.ev rfl)) ?_;clear HF a;intro a HF
    refine wl_as HF rfl rfl rfl rfl rfl ?_;clear HF a;intro a HF
    refine wl_ne ?_
    refine HF.cases 48 rfl (fun cc4 HF1 => ?_) (fun cc4 HF1 => ?_)
    ·clear HF; have HF := HF1; clear HF1
     have dcc4 := eq_of_beq cc4
     refine wc_true HF rfl ?_
     refine wp_sr ?_
     refine wl_mv HF rfl rfl rfl rfl rfl ?_;clear HF a;intro a HF
     replace HS:=Bx.mk (HS.out.pick 1 rfl)
     refine wl_call rfl HF rfl (enter_of Tryz.func94 (by kernel_rfl) rfl) (args := #[.pointer (some ⟨rb, 0, none⟩), .int .i64 3]) rfl (pickN w0 _ rb ab n cb bs hn hR (B + 2 + 2 * k) (by omega) 3 (by omega) _ HS.out) rfl rfl ?_
     rintro _ w13 ⟨dn13, rfl, hu13, hs1⟩
     refine ⟨_, rfl, ?_⟩; replace HS := Bx.mk hs1; clear hs1 HF; clear a; intro a HF
     replace HS : Bx (St w0 (rdA rb ab n cb (B + 2 + 2 * k + 1) :: rowA encB 1 5 (.slice ao xs.length cp) xs :: F) _) := ⟨HS.out⟩
     refine wl_y rfl HF rfl rfl (yl_addI rfl (HF.ev rfl) (HF.ev rfl) (i64w (by omega))) ?_;clear HF a;intro a HF
     refine wl_y rfl HF rfl rfl (yl_toU8 (b := UInt8.ofNat ((97 : Int) + (dn13 : Int)).toNat) rfl (HF.ev rfl) (by omega) rfl (by kernel_rfl) (by kernel_rfl)) ?_;clear HF a;intro a HF
     refine wl_as HF rfl rfl rfl rfl rfl ?_;clear HF a;intro a HF
     refine wl_ne ?_
     refine wp_sr ?_
     refine wl_mv HF rfl rfl rfl rfl rfl ?_;clear HF a;intro a HF
     replace HS:=Bx.mk (HS.out.pick 0 rfl)
     refine wl_call rfl HF rfl (enter_of Tryz.func94 (by kernel_rfl) rfl) (args := #[.pointer (some ⟨rb, 0, none⟩), .int .i64 6]) rfl (pickN w0 _ rb ab n cb bs hn hR (B + 2 + 2 * k + 1) (by omega) 6 (by omega) _ HS.out) rfl rfl ?_
     rintro _ w14 ⟨dn14, rfl, hu14, hs1⟩
     refine ⟨_, rfl, ?_⟩; replace HS := Bx.mk hs1; clear hs1 HF; clear a; intro a HF
     replace HS : Bx (St w0 (rdA rb ab n cb (B + 2 + 2 * k + 1 + 1) :: rowA encB 1 5 (.slice ao xs.length cp) xs :: F) _) := ⟨HS.out⟩
     refine wl_as HF rfl rfl rfl rfl rfl ?_;clear HF a;intro a HF
     refine wl_ne ?_
     refine wp_block ?_
     replace HS:=Bx.mk ((HS.out.pick 0 rfl).pick 1 rfl)
     refine wc_loop (ι := Nat) (fun j a w => ∃ (ao2 : Option Addr) (cp2 : Nat) (ys : List UInt8), (ys.length = k + j ∧ ys.length ≤ dn2 ∧ j ≤ 6) ∧ Fr 72 a [(0, .pointer (some ⟨rb, 0, none⟩)), (1, .int .i64 (m : Int)), (4, .string (⟨#[]⟩ : ByteArray)), (5, .slice ao2 ys.length cp2), (6, .int .i64 (dn2 : Int)), (7, .int .i64 (dn3 : Int)), (8, .int .u8 ((UInt8.ofNat ((97 : Int) + (dn13 : Int)).toNat).toNat : Int)), (9, .int .i64 ((dn14 : Int) - (j : Int)))] ∧ St w0 (rowA encB 1 5 (.slice ao2 ys.length cp2) ys :: rdA rb ab n cb (B + 2 + 2 * k + 1 + 1) :: F) w) (fun j => 6 - j) 0 ⟨_, _, xs, ⟨by omega, by omega, by omega⟩, HF.less _ ⟨rfl, rfl, rfl, rfl, rfl, rfl, rfl, (by show some (Value.int .i64 _) = some (Value.int .i64 _); exact congrArg (fun z => some (Value.int .i64 z)) (by omega)), trivial⟩, HS.out⟩ ?_
     clear HF HS; clear a
     rintro j a w15 ⟨ao2, cp2, ys, ⟨hy, hyk, hj⟩, HF, HS⟩
     replace HS := Bx.mk HS
     refine wp_seq ?_
     refine wp_sr ?_
     refine wl_mv HF rfl rfl rfl rfl rfl ?_;clear HF a;intro a HF
     refine wl_y rfl HF rfl rfl (yl_geqI rfl (HF.ev rfl) (HF.ev rfl)) ?_;clear HF a;intro a HF
     refine wl_mv HF rfl rfl rfl rfl rfl ?_;clear HF a;intro a HF
     refine HF.cases 58 rfl (fun cc5 HF1 => ?_) (fun cc5 HF1 => ?_)
     ·clear HF; have HF := HF1; clear HF1
      have dcc5 := of_decide_eq_true cc5
      refine wl_yg HF rfl rfl rfl rfl rfl (yl_move rfl (HF.ev rfl)) ?_;clear HF a;intro a HF
      refine wl_yg HF rfl rfl rfl rfl rfl (yl_lenL (e := 5) (size := 1) rfl (HF.ev rfl) (by kernel_rfl)) ?_;clear HF a;intro a HF
      refine wl_yg HF rfl rfl rfl rfl rfl (yl_move rfl (HF.ev rfl)) ?_;clear HF a;intro a HF
      refine wl_yg HF rfl rfl rfl rfl rfl (yl_lssI rfl (HF.ev rfl) (HF.ev rfl)) ?_;clear HF a;intro a HF
      refine wl_y rfl HF rfl rfl (yl_pick_t rfl (HF.ev rfl) (HF.ev rfl)) ?_;clear HF a;intro a HF
      refine wl_ne ?_
      refine HF.cases 63 rfl (fun cc6 HF1 => ?_) (fun cc6 HF1 => ?_)
      ·clear HF; have HF := HF1; clear HF1
       have dcc6 := of_decide_eq_true cc6
       refine wc_true HF rfl ?_
       refine wp_skip ?_
       refine ex_then ?_
       refine wp_seq ?_
       refine wp_block ?_
       refine wp_region_lit ?_
       refine wl_mv HF rfl rfl rfl rfl rfl ?_;clear HF a;intro a HF
       refine wl_mv HF rfl rfl rfl rfl rfl ?_;clear HF a;intro a HF
       refine wl_buildS (enc := encB) (e := 5) (size := 1) rfl HF rfl rfl rfl (ps := [(0, .int .u8 ((UInt8.ofNat ((97 : Int) + (dn13 : Int)).toNat).toNat : Int))]) rfl (cells := [.int .u8 ((UInt8.ofNat ((97 : Int) + (dn13 : Int)).toNat).toNat : Int)]) (by kernel_rfl) [(UInt8.ofNat ((97 : Int) + (dn13 : Int)).toNat)] rfl rfl (by unfold maxLen; omega) rfl HS.out ?_; clear HF HS a; intro b15 a w16 HF HS; replace HS := Bx.mk HS
       refine wl_appL rfl HF rfl rfl rfl (HF.ev rfl) (HF.ev rfl) elemB encB_len HS.out 1 (xs := ys) rfl (ys := [(UInt8.ofNat ((97 : Int) + (dn13 : Int)).toNat)]) (St.rdN HS.out encB_len 0 rfl) (cells_one_B _) (by unfold maxLen; simp only [List.length_cons, List.length_nil]; omega) (by simp only [List.length_cons, List.length_nil]; omega) ?_; clear HF HS a; intro ao16 cp17 w17 a HF HS; replace HS := Bx.mk HS
       replace HS : Bx (St w0 (rowA encB 1 5 (.slice (some ⟨b15, 0, none⟩) 1 1) ([(UInt8.ofNat ((97 : Int) + (dn13 : Int)).toNat)]) :: rowA encB 1 5 (.slice ao16 (ys.length + ([(UInt8.ofNat ((97 : Int) + (dn13 : Int)).toNat)]).length) cp17) (ys ++ ([(UInt8.ofNat ((97 : Int) + (dn13 : Int)).toNat)])) :: rdA rb ab n cb (B + 2 + 2 * k + 1 + 1) :: F) _) := ⟨HS.out⟩
       refine wl_as HF rfl rfl rfl rfl rfl ?_;clear HF a;intro a HF
       refine wpList_nil ?_
       refine ex_block ?_
       refine ex_then ?_
       refine wp_region_lit ?_
       refine wl_mv HF rfl rfl rfl rfl rfl ?_;clear HF a;intro a HF
       refine wl_y rfl HF rfl rfl (yl_subI rfl (HF.ev rfl) (HF.ev rfl) (i64w (by omega))) ?_;clear HF a;intro a HF
       refine wl_as HF rfl rfl rfl rfl rfl ?_;clear HF a;intro a HF
       refine wl_ne ?_
       have hz : ys.length + ([(UInt8.ofNat ((97 : Int) + (dn13 : Int)).toNat)]).length = (ys ++ ([(UInt8.ofNat ((97 : Int) + (dn13 : Int)).toNat)])).length := (List.length_append ..).symm
       rw [hz] at HS HF
       replace HS:=Bx.mk ((HS.out.pick 2 rfl).pick 2 rfl)
       exact ⟨j + 1, ⟨_, _, ys ++ ([(UInt8.ofNat ((97 : Int) + (dn13 : Int)).toNat)]), ⟨by rw [← hz, hy]; simp only [List.length_cons, List.length_nil]; omega, by rw [← hz]; simp only [List.length_cons, List.length_nil]; omega, by omega⟩, HF.less _ ⟨rfl, rfl, rfl, rfl, rfl, rfl, rfl, (by show some (Value.int .i64 _) = some (Value.int .i64 _); exact congrArg (fun z => some (Value.int .i64 z)) (by omega)), trivial⟩, (HS.out.erase 2)⟩, (by omega)⟩
      ·clear HF; have HF := HF1; clear HF1
       have dcc6 := of_decide_eq_false cc6
       refine wc_false HF rfl ?_
       refine wp_exit ?_
       refine ex_then_exit ?_
       refine ex_then_exit ?_
       refine ex_block_hit ?_
       refine ex_block ?_
       refine ex_block ?_
       refine ex_then ?_
       replace HS:=Bx.mk ((HS.out.pick 0 rfl).pick 1 rfl)
       replace HS := Bx.mk (HS.out.rdLe (B' := B + 2 + 2 * (ys.length)) (by omega)).swap
       replace HS : Bx (St w0 (rowA encB 1 5 (.slice ao2 ys.length cp2) ys :: rdA rb ab n cb (B + 2 + 2 * (ys.length)) :: F) _) := ⟨HS.out⟩
       replace HS := Bx.mk (HS.out)
       exact ⟨ys.length, ⟨_, _, ys, ⟨rfl, by omega⟩, HF.less _ ⟨rfl, rfl, rfl, rfl, rfl, rfl, trivial⟩, HS.out⟩, (by omega)⟩
     ·clear HF; have HF := HF1; clear HF1
      have dcc5 := of_decide_eq_false cc5
      refine wl_skip HF rfl rfl rfl rfl rfl rfl ?_;clear HF a;intro a HF
      refine wl_skip HF rfl rfl rfl rfl rfl rfl ?_;clear HF a;intro a HF
      refine wl_skip HF rfl rfl rfl rfl rfl rfl ?_;clear HF a;intro a HF
      refine wl_skip HF rfl rfl rfl rfl rfl rfl ?_;clear HF a;intro a HF
      refine wl_y rfl HF rfl rfl (yl_pick_f rfl (HF.ev rfl) (HF.ev rfl)) ?_;clear HF a;intro a HF
      refine wl_ne ?_
      refine wc_false HF rfl ?_
      refine wp_exit ?_
      refine ex_then_exit ?_
      refine ex_then_exit ?_
      refine ex_block_hit ?_
      refine ex_block ?_
      refine ex_block ?_
      refine ex_then ?_
      replace HS:=Bx.mk ((HS.out.pick 0 rfl).pick 1 rfl)
      replace HS := Bx.mk (HS.out.rdLe (B' := B + 2 + 2 * (ys.length)) (by omega)).swap
      replace HS : Bx (St w0 (rowA encB 1 5 (.slice ao2 ys.length cp2) ys :: rdA rb ab n cb (B + 2 + 2 * (ys.length)) :: F) _) := ⟨HS.out⟩
      replace HS := Bx.mk (HS.out)
      exact ⟨ys.length, ⟨_, _, ys, ⟨rfl, by omega⟩, HF.less _ ⟨rfl, rfl, rfl, rfl, rfl, rfl, trivial⟩, HS.out⟩, (by omega)⟩
    ·clear HF; have HF := HF1; clear HF1
     have dcc4 := ne_of_beq_false cc4
     refine wc_false HF rfl ?_
     refine wp_region_lit ?_
     refine wl_mv HF rfl rfl rfl rfl rfl ?_;clear HF a;intro a HF
     refine wl_mv HF rfl rfl rfl rfl rfl ?_;clear HF a;intro a HF
     replace HS:=Bx.mk (HS.out.pick 1 rfl)
     refine wl_call rfl HF rfl (enter_of Tryz.func94 (by kernel_rfl) rfl) (args := #[.pointer (some ⟨rb, 0, none⟩), .int .i64 2]) rfl (pickN w0 _ rb ab n cb bs hn hR (B + 2 + 2 * k) (by omega) 2 (by omega) _ HS.out) rfl rfl ?_
     rintro _ w18 ⟨dn18, rfl, hu18, hs1⟩
     refine ⟨_, rfl, ?_⟩; replace HS := Bx.mk hs1; clear hs1 HF; clear a; intro a HF
     replace HS : Bx (St w0 (rdA rb ab n cb (B + 2 + 2 * k + 1) :: rowA encB 1 5 (.slice ao xs.length cp) xs :: F) _) := ⟨HS.out⟩
     refine wl_y rfl HF rfl rfl (yl_mulI rfl (HF.ev rfl) (HF.ev rfl) (i64w (by omega))) ?_;clear HF a;intro a HF
     refine wl_y rfl HF rfl rfl (yl_toU8 (b := UInt8.ofNat ((dn18 : Int) * 97).toNat) rfl (HF.ev rfl) (by omega) rfl (by kernel_rfl) (by kernel_rfl)) ?_;clear HF a;intro a HF
     refine wl_buildS (enc := encB) (e := 5) (size := 1) rfl HF rfl rfl rfl (ps := [(0, .int .u8 ((UInt8.ofNat ((dn18 : Int) * 97).toNat).toNat : Int))]) rfl (cells := [.int .u8 ((UInt8.ofNat ((dn18 : Int) * 97).toNat).toNat : Int)]) (by kernel_rfl) [(UInt8.ofNat ((dn18 : Int) * 97).toNat)] rfl rfl (by unfold maxLen; omega) rfl HS.out ?_; clear HF HS a; intro b19 a w19 HF HS; replace HS := Bx.mk HS
     refine wl_appL rfl HF rfl rfl rfl (HF.ev rfl) (HF.ev rfl) elemB encB_len HS.out 2 (xs := xs) rfl (ys := [(UInt8.ofNat ((dn18 : Int) * 97).toNat)]) (St.rdN HS.out encB_len 0 rfl) (cells_one_B _) (by unfold maxLen; simp only [List.length_cons, List.length_nil]; omega) (by simp only [List.length_cons, List.length_nil]; omega) ?_; clear HF HS a; intro ao20 cp21 w20 a HF HS; replace HS := Bx.mk HS
     replace HS : Bx (St w0 (rowA encB 1 5 (.slice (some ⟨b19, 0, none⟩) 1 1) ([(UInt8.ofNat ((dn18 : Int) * 97).toNat)]) :: rdA rb ab n cb (B + 2 + 2 * k + 1) :: rowA encB 1 5 (.slice ao20 (xs.length + ([(UInt8.ofNat ((dn18 : Int) * 97).toNat)]).length) cp21) (xs ++ ([(UInt8.ofNat ((dn18 : Int) * 97).toNat)])) :: F) _) := ⟨HS.out⟩
     refine wl_as HF rfl rfl rfl rfl rfl ?_;clear HF a;intro a HF
     refine wpList_nil ?_
     refine ex_block ?_
     refine ex_block ?_
     refine ex_then ?_
     have hz : xs.length + ([(UInt8.ofNat ((dn18 : Int) * 97).toNat)]).length = (xs ++ ([(UInt8.ofNat ((dn18 : Int) * 97).toNat)])).length := (List.length_append ..).symm
     rw [hz] at HS HF
     replace HS:=Bx.mk ((HS.out.pick 2 rfl).pick 2 rfl)
     replace HS := Bx.mk (HS.out.rdLe (B' := B + 2 + 2 * (k + 1)) (by omega)).swap
     replace HS : Bx (St w0 (rowA encB 1 5 (.slice ao20 ((xs ++ ([(UInt8.ofNat ((dn18 : Int) * 97).toNat)])).length) cp21) (xs ++ ([(UInt8.ofNat ((dn18 : Int) * 97).toNat)])) :: rdA rb ab n cb (B + 2 + 2 * (k + 1)) :: rowA encB 1 5 (.slice (some ⟨b19, 0, none⟩) 1 1) ([(UInt8.ofNat ((dn18 : Int) * 97).toNat)]) :: F) _) := ⟨HS.out⟩
     replace HS := Bx.mk ((HS.out.erase 2))
     exact ⟨k + 1, ⟨_, _, xs ++ ([(UInt8.ofNat ((dn18 : Int) * 97).toNat)]), ⟨by simp [hxl], by omega⟩, HF.less _ ⟨rfl, rfl, rfl, rfl, rfl, rfl, trivial⟩, HS.out⟩, (by omega)⟩
 ·clear HF; have HF := HF1; clear HF1
  have dcc1 := of_decide_eq_false cc1
  refine wc_false HF rfl ?_
  refine wp_exit ?_
  refine ex_then_exit ?_
  refine ex_then_exit ?_
  refine ex_block_hit ?_
  refine ex_then ?_
  refine wp_sr ?_
  refine wl_mv HF rfl rfl rfl rfl rfl ?_;clear HF a;intro a HF
  refine wl_y rfl HF rfl rfl (yl_convBS (e1 := 5) rfl (HF.ev rfl) (by kernel_rfl) (by kernel_rfl) (by kernel_rfl) (xs := xs) (St.rdOf HS.out encB_len 0 rfl)) ?_;clear HF a;intro a HF
  refine wl_as HF rfl rfl rfl rfl rfl ?_;clear HF a;intro a HF
  refine wl_ne ?_
  refine wp_ret ?_
  refine bp_ret1 HF Tryz.results138 (HF.res rfl) ?_
  replace HS:=Bx.mk (HS.out.pick 1 rfl)
  exact ⟨_, rfl, by show xs.toArray.size ≤ m; rw [List.size_toArray]; omega, ((HS.out.rdLe (B' := B + (2 + 2 * m)) (by omega)).erase 1)⟩

theorem l6Open_any (w0 : World) (ab : Option Addr) (n cb : Nat) (hcap : n ≤ cb) (hn : n ≤ 1048576) : Calls Tryz.prog 48 #[.slice ab n cb] w0 fun e w' => ∃ (rb n' : Nat), e = .returned (.pointer (some ⟨rb, 0, none⟩)) ∧ n' ≤ 2000 ∧ n' ≤ n ∧ St w0 [rdA rb ab n' cb 0] w' := by
 have HS := Bx.mk (St.start w0)
 refine wc_enter Tryz.func48 rfl Tryz.ntmps48 [(0, .slice ab n cb)] ⟨rfl, trivial⟩ rfl ?_; intro a HF
 refine wp_sr ?_
 refine wl_as HF rfl rfl rfl rfl rfl ?_;clear HF a;intro a HF
 refine wl_ne ?_
 refine wp_seq ?_
 refine wp_sr ?_
 refine wl_mv HF rfl rfl rfl rfl rfl ?_;clear HF a;intro a HF
 refine wl_y rfl HF rfl rfl (yl_lenL (e := 5) (size := 1) rfl (HF.ev rfl) (by kernel_rfl)) ?_;clear HF a;intro a HF
 refine wl_y rfl HF rfl rfl (yl_gtrI rfl (HF.ev rfl) (HF.ev rfl)) ?_;clear HF a;intro a HF
 refine wl_ne ?_
 refine HF.cases 5 rfl (fun cc1 HF1 => ?_) (fun cc1 HF1 => ?_)
 ·clear HF; have HF := HF1; clear HF1
  have dcc1 := of_decide_eq_true cc1
  refine wc_true HF rfl ?_
  refine wp_region_lit ?_
  refine wl_mv HF rfl rfl rfl rfl rfl ?_;clear HF a;intro a HF
  refine wl_y rfl HF rfl rfl (yl_sliceHi (e := 5) (size := 1) (k := 2000) rfl (HF.ev rfl) (HF.ev rfl) (by kernel_rfl) (by omega) (by omega)) ?_;clear HF a;intro a HF
  refine wl_as HF rfl rfl rfl rfl rfl ?_;clear HF a;intro a HF
  refine wl_ne ?_
  refine wp_sr ?_
  refine wl_mv HF rfl rfl rfl rfl rfl ?_;clear HF a;intro a HF
  refine wl_y rfl HF rfl rfl (yl_build HF rfl (ps := [(0, .slice ab 2000 cb)]) rfl (cs := #[.slice ab 2000 cb, .int .i64 0]) (by kernel_rfl)) ?_;clear HF a;intro a HF
  refine wl_box rfl HF rfl (HF.ev rfl) (Z := [.slice ab 2000 cb, .int .i64 0]) rfl rfl rfl rfl HS.out ?_; clear HF HS a; intro a w1 b1 HF HS; replace HS := Bx.mk HS
  refine wl_as HF rfl rfl rfl rfl rfl ?_;clear HF a;intro a HF
  refine wl_ne ?_
  refine wp_ret ?_
  refine bp_ret1 HF Tryz.results48 (HF.res rfl) ?_
  exact ⟨_, 2000, rfl, by omega, by omega, St.rdMk (p := 0) (by omega) HS.out⟩
 ·clear HF; have HF := HF1; clear HF1
  have dcc1 := of_decide_eq_false cc1
  refine wc_false HF rfl ?_
  refine wp_skip ?_
  refine ex_then ?_
  refine wp_sr ?_
  refine wl_mv HF rfl rfl rfl rfl rfl ?_;clear HF a;intro a HF
  refine wl_y rfl HF rfl rfl (yl_build HF rfl (ps := [(0, .slice ab n cb)]) rfl (cs := #[.slice ab n cb, .int .i64 0]) (by kernel_rfl)) ?_;clear HF a;intro a HF
  refine wl_box rfl HF rfl (HF.ev rfl) (Z := [.slice ab n cb, .int .i64 0]) rfl rfl rfl rfl HS.out ?_; clear HF HS a; intro a w2 b2 HF HS; replace HS := Bx.mk HS
  refine wl_as HF rfl rfl rfl rfl rfl ?_;clear HF a;intro a HF
  refine wl_ne ?_
  refine wp_ret ?_
  refine bp_ret1 HF Tryz.results48 (HF.res rfl) ?_
  exact ⟨_, n, rfl, by omega, by omega, St.rdMk (p := 0) (by omega) HS.out⟩

end Go.Proofs.YtoaopmkbfifhaaaGreatDoor

/- Drawing disks. -/
namespace Go.Proofs.YtoaopmkbfifhaaaGreatDoor
set_option linter.unusedVariables false
set_option linter.unusedSimpArgs false
set_option maxHeartbeats 1000000
set_option maxRecDepth 100000
open Go.RowKit

theorem l91Disk_any (w0 w : World) (rb : Nat) (ab : Option Addr) (n cb : Nat) (bs : List UInt8) (hn : n ≤ 2000) (hR : Rd encB 1 w0 ab n bs) (B : Nat) (hB : B ≤ 800000) (F : List Asr) (hS : St w0 (rdA rb ab n cb B :: F) w) : Calls Tryz.prog 97 #[.pointer (some ⟨rb, 0, none⟩)] w fun e w' => ∃ q : HD, q.d.fits ∧ e = .returned (.agg #[.slice q.a0 q.d.fCells.length q.c0, .slice q.a1 q.d.fWaits.length q.c1, .bool q.d.fGone]) ∧ St w0 (rdA rb ab n cb (B + 500) :: holdsA (fun w => q.reads w) :: F) w' := by
 have HS := Bx.mk hS; clear hS
 refine wc_enter Tryz.func97 rfl Tryz.ntmps97 [(0, .pointer (some ⟨rb, 0, none⟩))] ⟨rfl, trivial⟩ rfl ?_; intro a HF
 refine wp_sr ?_
 refine wl_alloc rfl HF rfl rfl rfl (Z := [.slice none 0 0, .slice none 0 0, .bool false]) (by kernel_rfl) rfl HS.out ?_; clear HF HS a; intro a w1 b1 HF HS; replace HS := Bx.mk HS
 refine wl_ne ?_
 refine wp_seq ?_
 refine wp_sr ?_
 refine wl_mv HF rfl rfl rfl rfl rfl ?_;clear HF a;intro a HF
 replace HS:=Bx.mk (HS.out.pick 1 rfl)
 refine wl_call rfl HF rfl (enter_of Tryz.func94 (by kernel_rfl) rfl) (args := #[.pointer (some ⟨rb, 0, none⟩), .int .i64 12]) rfl (pickN w0 _ rb ab n cb bs hn hR B (by omega) 12 (by omega) _ HS.out) rfl rfl ?_
 rintro _ w2 ⟨dn2, rfl, hu2, hs1⟩
 refine ⟨_, rfl, ?_⟩; replace HS := Bx.mk hs1; clear hs1 HF; clear a; intro a HF
 replace HS : Bx (St w0 (rdA rb ab n cb (B + 1) :: boxA b1 3 94 (.agg #[.slice none 0 0, .slice none 0 0, .bool false]) :: F) _) := ⟨HS.out⟩
 refine wl_y rfl HF rfl rfl (yl_eqlI rfl (HF.ev rfl) (HF.ev rfl)) ?_;clear HF a;intro a HF
 refine wl_ne ?_
 refine HF.cases 8 rfl (fun cc1 HF1 => ?_) (fun cc1 HF1 => ?_)
 ·clear HF; have HF := HF1; clear HF1
  have dcc1 := eq_of_beq cc1
  refine wc_true HF rfl ?_
  refine wp_sr ?_
  refine wl_call rfl HF rfl (enter_of Tryz.func95 (by kernel_rfl) rfl) (args := #[]) rfl (specLose_any _) rfl rfl ?_
  rintro _ w3 ⟨⟨qa3, qc3, qb3, qe3, qd⟩, hqd, rfl, hs⟩; obtain rfl : qd = lostD := hqd; refine ⟨_, rfl, ?_⟩
  replace HS := Bx.mk ((HS.out.add hs)); clear hs HF; clear a; intro a HF
  replace HS : Bx (St w0 (HD.asr ⟨qa3, qc3, qb3, qe3, lostD⟩ :: rdA rb ab n cb (B + 1) :: boxA b1 3 94 (.agg #[.slice none 0 0, .slice none 0 0, .bool false]) :: F) _) := ⟨HS.out⟩
  refine wl_storeBox rfl HF rfl rfl (HF.ev rfl) (HF.ev rfl) HS.out 2 rfl (cells_lit [.slice qa3 lostD.fCells.length qc3, .slice qb3 lostD.fWaits.length qe3, .bool lostD.fGone] rfl rfl) (by kernel_rfl) ?_; clear HS; intro w4 HS; replace HS := Bx.mk HS
  have HS : Bx (St w0 (HD.asr ⟨qa3, qc3, qb3, qe3, lostD⟩ :: rdA rb ab n cb (B + 1) :: boxA b1 3 94 (.agg #[.slice qa3 lostD.fCells.length qc3, .slice qb3 lostD.fWaits.length qe3, .bool lostD.fGone]) :: F) _) := HS
  refine wl_ne ?_
  refine wp_ret ?_
  refine ex_then_ret ?_
  refine bp_ret1 HF Tryz.results97 (HF.resBox rfl (HS.out.box 2 rfl) (by kernel_rfl)) ?_
  replace HS:=Bx.mk ((HS.out.pick 0 rfl).pick 1 rfl)
  have HT := ((HS.out.rdLe (B' := B + 500) (by omega)).swap.hold (P := fun w => HD.reads w ⟨qa3, qc3, qb3, qe3, lostD⟩) (fun w f h => HD.asr_reads1 h)).swap
  exact ⟨⟨qa3, qc3, qb3, qe3, lostD⟩, lost_fits, rfl, (HT.erase 2)⟩
 ·clear HF; have HF := HF1; clear HF1
  have dcc1 := ne_of_beq_false cc1
  refine wc_false HF rfl ?_
  refine wp_skip ?_
  refine ex_then ?_
  refine wp_sr ?_
  refine wl_call rfl HF rfl (enter_of Tryz.func137 (by kernel_rfl) rfl) (args := #[]) rfl (diskNew_any _) rfl rfl ?_
  rintro _ w5 ⟨⟨qa4, qc4, qb4, qe4, qd⟩, hqd, rfl, hs⟩; obtain rfl : qd = newD := hqd; refine ⟨_, rfl, ?_⟩
  replace HS := Bx.mk (St.join.2 (HS.out.add hs)); clear hs HF; clear a; intro a HF
  replace HS : Bx (St w0 (rowA encS 1 9 (.slice qa4 newD.fCells.length qc4) newD.fCells :: rowA WaitD.cells 2 137 (.slice qb4 newD.fWaits.length qe4) newD.fWaits :: rdA rb ab n cb (B + 1) :: boxA b1 3 94 (.agg #[.slice none 0 0, .slice none 0 0, .bool false]) :: F) _) := ⟨HS.out⟩
  replace HS : Bx (St w0 (rowA encS 1 9 (.slice qa4 64 qc4) (List.replicate 64 ByteArray.empty) :: rowA WaitD.cells 2 137 (.slice qb4 0 qe4) ([]) :: rdA rb ab n cb (B + 1) :: boxA b1 3 94 (.agg #[.slice none 0 0, .slice none 0 0, .bool false]) :: F) _) := ⟨HS.out⟩
  replace HF : Fr 93 a [(0, .pointer (some ⟨rb, 0, none⟩)), (2, .pointer (some ⟨b1, 0, none⟩)), (6, .pointer (some ⟨rb, 0, none⟩)), (7, .int .i64 (dn2 : Int)), (8, .bool false), (10, .agg #[.slice qa4 64 qc4, .slice qb4 0 qe4, .bool false])] := HF.less _ ⟨rfl, rfl, rfl, rfl, rfl, rfl, trivial⟩
  obtain ⟨g5, rfl, _, _, _, _⟩ := HS.out.rowOpen 0 rfl (by rw [List.length_replicate]; omega)
  refine wl_alloc rfl HF rfl rfl rfl (Z := [.slice none 0 0, .slice none 0 0, .bool false]) (by kernel_rfl) rfl HS.out ?_; clear HF HS a; intro a w6 b6 HF HS; replace HS := Bx.mk HS
  refine wl_storeBox rfl HF rfl rfl (HF.ev rfl) (HF.ev rfl) HS.out 0 rfl (cells_lit [.slice (some ⟨g5, 0, none⟩) 64 qc4, .slice qb4 0 qe4, .bool false] rfl rfl) (by kernel_rfl) ?_; clear HS; intro w7 HS; replace HS := Bx.mk HS
  have HS : Bx (St w0 (boxA b6 3 94 (.agg #[.slice (some ⟨g5, 0, none⟩) 64 qc4, .slice qb4 0 qe4, .bool false]) :: rowA encS 1 9 (.slice (some ⟨g5, 0, none⟩) 64 qc4) (List.replicate 64 ByteArray.empty) :: rowA WaitD.cells 2 137 (.slice qb4 0 qe4) ([]) :: rdA rb ab n cb (B + 1) :: boxA b1 3 94 (.agg #[.slice none 0 0, .slice none 0 0, .bool false]) :: F) _) := HS
  refine wl_ne ?_
  refine wp_seq ?_
  refine wp_sr ?_
  refine wl_mv HF rfl rfl rfl rfl rfl ?_;clear HF a;intro a HF
  replace HS:=Bx.mk (HS.out.pick 3 rfl)
  refine wl_call rfl HF rfl (enter_of Tryz.func94 (by kernel_rfl) rfl) (args := #[.pointer (some ⟨rb, 0, none⟩), .int .i64 8]) rfl (pickN w0 _ rb ab n cb bs hn hR (B + 1) (by omega) 8 (by omega) _ HS.out) rfl rfl ?_
  rintro _ w8 ⟨dn7, rfl, hu7, hs1⟩
  refine ⟨_, rfl, ?_⟩; replace HS := Bx.mk hs1; clear hs1 HF; clear a; intro a HF
  replace HS : Bx (St w0 (rdA rb ab n cb (B + 1 + 1) :: boxA b6 3 94 (.agg #[.slice (some ⟨g5, 0, none⟩) 64 qc4, .slice qb4 0 qe4, .bool false]) :: rowA encS 1 9 (.slice (some ⟨g5, 0, none⟩) 64 qc4) (List.replicate 64 ByteArray.empty) :: rowA WaitD.cells 2 137 (.slice qb4 0 qe4) ([]) :: boxA b1 3 94 (.agg #[.slice none 0 0, .slice none 0 0, .bool false]) :: F) _) := ⟨HS.out⟩
  refine wl_as HF rfl rfl rfl rfl rfl ?_;clear HF a;intro a HF
  refine wl_ne ?_
  refine wp_block ?_
  replace HS:=Bx.mk (HS.out.pick 0 rfl)
  replace HS : Bx (St w0 (rdA rb ab n cb (B + 1 + 1 + 21 * 0) :: boxA b6 3 94 (.agg #[.slice (some ⟨g5, 0, none⟩) 64 qc4, .slice qb4 0 qe4, .bool false]) :: rowA encS 1 9 (.slice (some ⟨g5, 0, none⟩) 64 qc4) (List.replicate 64 ByteArray.empty) :: rowA WaitD.cells 2 137 (.slice qb4 0 qe4) ([]) :: boxA b1 3 94 (.agg #[.slice none 0 0, .slice none 0 0, .bool false]) :: F) _) := ⟨HS.out.rdLe (by omega)⟩
  refine wc_loop (ι := Nat) (fun k a w => ∃ (cs : List ByteArray), (k ≤ dn7 ∧ cs.length = 64 ∧ ∀ x, x ∈ cs → x.size ≤ 1000) ∧ Fr 93 a [(0, .pointer (some ⟨rb, 0, none⟩)), (2, .pointer (some ⟨b1, 0, none⟩)), (3, .pointer (some ⟨b6, 0, none⟩)), (4, .int .i64 ((dn7 : Int) - (k : Int)))] ∧ St w0 (rdA rb ab n cb (B + 1 + 1 + 21 * k) :: boxA b6 3 94 (.agg #[.slice (some ⟨g5, 0, none⟩) 64 qc4, .slice qb4 0 qe4, .bool false]) :: rowA encS 1 9 (.slice (some ⟨g5, 0, none⟩) 64 qc4) cs :: rowA WaitD.cells 2 137 (.slice qb4 0 qe4) ([]) :: boxA b1 3 94 (.agg #[.slice none 0 0, .slice none 0 0, .bool false]) :: F) w) (fun k => dn7 - k) 0 ⟨(List.replicate 64 ByteArray.empty), ⟨Nat.zero_le _, List.length_replicate .., fun x hx => by rw [List.eq_of_mem_replicate hx]; exact Nat.zero_le _⟩, HF.less _ ⟨rfl, rfl, rfl, (by show some (Value.int .i64 _) = some (Value.int .i64 _); exact congrArg (fun z => some (Value.int .i64 z)) (by omega)), trivial⟩, HS.out⟩ ?_
  clear HF HS; clear a
  rintro k a w9 ⟨cs, ⟨hk, hcl, hc⟩, HF, HS⟩
  replace HS := Bx.mk HS
  refine wp_seq ?_
  refine wp_sr ?_
  refine wl_mv HF rfl rfl rfl rfl rfl ?_;clear HF a;intro a HF
  refine wl_y rfl HF rfl rfl (yl_gtrI rfl (HF.ev rfl) (HF.ev rfl)) ?_;clear HF a;intro a HF
  refine wl_ne ?_
  refine HF.cases 14 rfl (fun cc2 HF1 => ?_) (fun cc2 HF1 => ?_)
  ·clear HF; have HF := HF1; clear HF1
   have dcc2 := of_decide_eq_true cc2
   refine wc_true HF rfl ?_
   refine wp_skip ?_
   refine ex_then ?_
   refine wp_seq ?_
   refine wp_block ?_
   refine wr_marked (W := w0) (s := boxA b6 3 94 (.agg #[.slice (some ⟨g5, 0, none⟩) 64 qc4, .slice qb4 0 qe4, .bool false]) :: rowA encS 1 9 (.slice (some ⟨g5, 0, none⟩) 64 qc4) cs :: rowA WaitD.cells 2 137 (.slice qb4 0 qe4) ([]) :: boxA b1 3 94 (.agg #[.slice none 0 0, .slice none 0 0, .bool false]) :: F) 7 (by kernel_rfl) ?_
   have HS2 := Bx.mk HS.out.drew; replace HS := Bx.mk (show St w0 (boxA b6 3 94 (.agg #[.slice (some ⟨g5, 0, none⟩) 64 qc4, .slice qb4 0 qe4, .bool false]) :: rowA encS 1 9 (.slice (some ⟨g5, 0, none⟩) 64 qc4) cs :: rowA WaitD.cells 2 137 (.slice qb4 0 qe4) ([]) :: boxA b1 3 94 (.agg #[.slice none 0 0, .slice none 0 0, .bool false]) :: F) _ from (HS.out.drew.erase 0)); generalize World.drew _ = w10 at HS HS2 ⊢
   refine wm_t 0 rfl (by kernel_rfl) (by kernel_rfl) (by kernel_rfl) (fun _ _ _ h => h) (by decide) rfl HF rfl rfl (fun _ _ => (yl_fieldAddr (j := 0) rfl (HF.ev rfl) (by kernel_rfl))) (fun _ => HS.out) ?_;clear HF a;intro a HF
   refine wm_y 1 rfl (by kernel_rfl) (by kernel_rfl) (by kernel_rfl) (fun _ _ _ h => h) (by decide) (by kernel_rfl) (by kernel_rfl) rfl HF rfl rfl (fun _ HS => (yl_load (v := .slice (some ⟨g5, 0, none⟩) 64 qc4) rfl (HF.ev rfl) (((HS.box 0 rfl).cell 0).trans rfl) (by kernel_rfl))) HS.out ?_;clear HF a;intro a HF
   refine wm_t 2 rfl (by kernel_rfl) (by kernel_rfl) (by kernel_rfl) (fun _ _ _ h => h) (by decide) rfl HF rfl rfl (fun _ _ => (yl_move rfl (HF.ev rfl))) (fun _ => HS.out) ?_;clear HF a;intro a HF
   refine wm_t 4 rfl (by kernel_rfl) (by kernel_rfl) (by kernel_rfl) (fun _ _ _ h => h) (by decide) rfl HF rfl rfl (fun _ _ => (yl_move rfl (HF.ev rfl))) (fun _ => HS.out) ?_;clear HF a;intro a HF
   refine wm_one 3 (by kernel_rfl) ?_
   replace HS2:=Bx.mk (HS2.out.pick 0 rfl)
   refine wo_call rfl rfl HF rfl (enter_of Tryz.func94 (by kernel_rfl) rfl) (args := #[.pointer (some ⟨rb, 0, none⟩), .int .i64 64]) rfl (pickN w0 _ rb ab n cb bs hn hR (B + 1 + 1 + 21 * k) (by omega) 64 (by omega) _ HS2.out) rfl rfl ?_
   rintro _ w11 ⟨dn8, rfl, hu8, hs1⟩
   refine ⟨_, rfl, ?_⟩; replace HS2 := Bx.mk hs1; clear hs1 HF; clear a; intro a HF
   replace HS2 : Bx (St w0 (rdA rb ab n cb (B + 1 + 1 + 21 * k + 1) :: boxA b6 3 94 (.agg #[.slice (some ⟨g5, 0, none⟩) 64 qc4, .slice qb4 0 qe4, .bool false]) :: rowA encS 1 9 (.slice (some ⟨g5, 0, none⟩) 64 qc4) cs :: rowA WaitD.cells 2 137 (.slice qb4 0 qe4) ([]) :: boxA b1 3 94 (.agg #[.slice none 0 0, .slice none 0 0, .bool false]) :: F) _) := ⟨HS2.out⟩
   clear HS; have HS : Bx (St w0 (boxA b6 3 94 (.agg #[.slice (some ⟨g5, 0, none⟩) 64 qc4, .slice qb4 0 qe4, .bool false]) :: rowA encS 1 9 (.slice (some ⟨g5, 0, none⟩) 64 qc4) cs :: rowA WaitD.cells 2 137 (.slice qb4 0 qe4) ([]) :: boxA b1 3 94 (.agg #[.slice none 0 0, .slice none 0 0, .bool false]) :: F) _) := ⟨(HS2.out.erase 0)⟩
   refine ⟨fun _ => HS.out, ?_⟩
   refine wm_one 5 (by kernel_rfl) ?_
   replace HS2:=Bx.mk (HS2.out.pick 0 rfl)
   refine wo_call rfl rfl HF rfl (enter_of Tryz.func138 (by kernel_rfl) rfl) (args := #[.pointer (some ⟨rb, 0, none⟩), .int .i64 9]) rfl (l91Text_any w0 _ rb ab n cb bs hn hR (B + 1 + 1 + 21 * k + 1) (by omega) 9 (by omega) _ HS2.out) rfl rfl ?_
   rintro _ w12 ⟨dt9, rfl, ht9, hs1⟩
   refine ⟨_, rfl, ?_⟩; replace HS2 := Bx.mk hs1; clear hs1 HF; clear a; intro a HF
   replace HS2 : Bx (St w0 (rdA rb ab n cb (B + 1 + 1 + 21 * k + 1 + (2 + 2 * 9)) :: boxA b6 3 94 (.agg #[.slice (some ⟨g5, 0, none⟩) 64 qc4, .slice qb4 0 qe4, .bool false]) :: rowA encS 1 9 (.slice (some ⟨g5, 0, none⟩) 64 qc4) cs :: rowA WaitD.cells 2 137 (.slice qb4 0 qe4) ([]) :: boxA b1 3 94 (.agg #[.slice none 0 0, .slice none 0 0, .bool false]) :: F) _) := ⟨HS2.out⟩
   clear HS; have HS : Bx (St w0 (boxA b6 3 94 (.agg #[.slice (some ⟨g5, 0, none⟩) 64 qc4, .slice qb4 0 qe4, .bool false]) :: rowA encS 1 9 (.slice (some ⟨g5, 0, none⟩) 64 qc4) cs :: rowA WaitD.cells 2 137 (.slice qb4 0 qe4) ([]) :: boxA b1 3 94 (.agg #[.slice none 0 0, .slice none 0 0, .bool false]) :: F) _) := ⟨(HS2.out.erase 0)⟩
   refine ⟨fun _ => HS.out, ?_⟩
   refine wm_y 6 rfl (by kernel_rfl) (by kernel_rfl) (by kernel_rfl) (fun _ _ _ h => h) (by decide) (by kernel_rfl) (by kernel_rfl) rfl HF rfl rfl (fun _ HS => (yl_indexAddr (e := 9) (i := dn8) (size := 1) rfl (HF.ev rfl) (HF.ev rfl) (by kernel_rfl) rfl (by omega))) HS.out ?_;clear HF a;intro a HF
   refine wm_one 7 (by kernel_rfl) ?_
   refine wo_storeE encS_len rfl rfl rfl rfl (HF.ev rfl) (HF.ev rfl) (by kernel_rfl) HS2.out 2 rfl (by omega) (z := dt9) rfl rfl ?_
   clear HS2; intro w13 HS2; replace HS2 : Bx (St w0 (rdA rb ab n cb (B + 1 + 1 + 21 * k + 1 + (2 + 2 * 9)) :: boxA b6 3 94 (.agg #[.slice (some ⟨g5, 0, none⟩) 64 qc4, .slice qb4 0 qe4, .bool false]) :: rowA encS 1 9 (.slice (some ⟨g5, 0, none⟩) 64 qc4) (cs.set dn8 dt9) :: rowA WaitD.cells 2 137 (.slice qb4 0 qe4) ([]) :: boxA b1 3 94 (.agg #[.slice none 0 0, .slice none 0 0, .bool false]) :: F) _) := ⟨HS2⟩; refine ⟨(fun h => absurd (show true = false from h) (by decide)), ?_⟩
   refine wm_done (by kernel_rfl) ?_
   clear HS; have HS := HS2; clear HS2
   refine ex_block ?_
   refine ex_then ?_
   refine wp_region_lit ?_
   refine wl_mv HF rfl rfl rfl rfl rfl ?_;clear HF a;intro a HF
   refine wl_y rfl HF rfl rfl (yl_subI rfl (HF.ev rfl) (HF.ev rfl) (i64w (by omega))) ?_;clear HF a;intro a HF
   refine wl_as HF rfl rfl rfl rfl rfl ?_;clear HF a;intro a HF
   refine wl_ne ?_
   replace HS:=Bx.mk (HS.out.pick 0 rfl)
   replace HS : Bx (St w0 (rdA rb ab n cb (B + 1 + 1 + 21 * (k + 1)) :: boxA b6 3 94 (.agg #[.slice (some ⟨g5, 0, none⟩) 64 qc4, .slice qb4 0 qe4, .bool false]) :: rowA encS 1 9 (.slice (some ⟨g5, 0, none⟩) 64 qc4) (cs.set dn8 dt9) :: rowA WaitD.cells 2 137 (.slice qb4 0 qe4) ([]) :: boxA b1 3 94 (.agg #[.slice none 0 0, .slice none 0 0, .bool false]) :: F) _) := ⟨HS.out.rdLe (by omega)⟩
   exact ⟨k + 1, ⟨cs.set dn8 dt9, ⟨by omega, by rw [List.length_set]; exact hcl, (fun x hx => (List.mem_or_eq_of_mem_set hx).elim (hc x) fun e => by rw [e]; omega)⟩, HF.less _ ⟨rfl, rfl, rfl, (by show some (Value.int .i64 _) = some (Value.int .i64 _); exact congrArg (fun z => some (Value.int .i64 z)) (by omega)), trivial⟩, HS.out⟩, (by omega)⟩
  ·clear HF; have HF := HF1; clear HF1
   have dcc2 := of_decide_eq_false cc2
   refine wc_false HF rfl ?_
   refine wp_exit ?_
   refine ex_then_exit ?_
   refine ex_then_exit ?_
   refine ex_block_hit ?_
   refine ex_then ?_
   refine wp_seq ?_
   refine wp_sr ?_
   refine wl_mv HF rfl rfl rfl rfl rfl ?_;clear HF a;intro a HF
   replace HS:=Bx.mk (HS.out.pick 0 rfl)
   refine wl_call rfl HF rfl (enter_of Tryz.func94 (by kernel_rfl) rfl) (args := #[.pointer (some ⟨rb, 0, none⟩), .int .i64 7]) rfl (pickN w0 _ rb ab n cb bs hn hR (B + 1 + 1 + 21 * k) (by omega) 7 (by omega) _ HS.out) rfl rfl ?_
   rintro _ w14 ⟨dn10, rfl, hu10, hs1⟩
   refine ⟨_, rfl, ?_⟩; replace HS := Bx.mk hs1; clear hs1 HF; clear a; intro a HF
   replace HS : Bx (St w0 (rdA rb ab n cb (B + 1 + 1 + 21 * k + 1) :: boxA b6 3 94 (.agg #[.slice (some ⟨g5, 0, none⟩) 64 qc4, .slice qb4 0 qe4, .bool false]) :: rowA encS 1 9 (.slice (some ⟨g5, 0, none⟩) 64 qc4) cs :: rowA WaitD.cells 2 137 (.slice qb4 0 qe4) ([]) :: boxA b1 3 94 (.agg #[.slice none 0 0, .slice none 0 0, .bool false]) :: F) _) := ⟨HS.out⟩
   refine wl_as HF rfl rfl rfl rfl rfl ?_;clear HF a;intro a HF
   refine wl_ne ?_
   refine wp_block ?_
   replace HS:=Bx.mk (HS.out.pick 0 rfl)
   replace HS : Bx (St w0 (rdA rb ab n cb (B + 1 + 1 + 21 * k + 1 + 21 * 0) :: boxA b6 3 94 (.agg #[.slice (some ⟨g5, 0, none⟩) 64 qc4, .slice qb4 0 qe4, .bool false]) :: rowA encS 1 9 (.slice (some ⟨g5, 0, none⟩) 64 qc4) cs :: rowA WaitD.cells 2 137 (.slice qb4 0 qe4) ([]) :: boxA b1 3 94 (.agg #[.slice none 0 0, .slice none 0 0, .bool false]) :: F) _) := ⟨HS.out.rdLe (by omega)⟩
   refine wc_loop (ι := Nat) (fun k2 a w => ∃ (aw : Option Addr) (cw : Nat) (ws : List WaitD), (k2 ≤ dn10 ∧ ws.length = k2 ∧ ∀ x, x ∈ ws → x.fText.size ≤ 1000) ∧ Fr 93 a [(0, .pointer (some ⟨rb, 0, none⟩)), (2, .pointer (some ⟨b1, 0, none⟩)), (3, .pointer (some ⟨b6, 0, none⟩)), (5, .int .i64 ((dn10 : Int) - (k2 : Int)))] ∧ St w0 (rdA rb ab n cb (B + 1 + 1 + 21 * k + 1 + 21 * k2) :: boxA b6 3 94 (.agg #[.slice (some ⟨g5, 0, none⟩) 64 qc4, .slice aw ws.length cw, .bool false]) :: rowA encS 1 9 (.slice (some ⟨g5, 0, none⟩) 64 qc4) cs :: rowA WaitD.cells 2 137 (.slice aw ws.length cw) ws :: boxA b1 3 94 (.agg #[.slice none 0 0, .slice none 0 0, .bool false]) :: F) w) (fun k2 => dn10 - k2) 0 ⟨_, _, [], ⟨Nat.zero_le _, rfl, fun x hx => by cases hx⟩, HF.less _ ⟨rfl, rfl, rfl, (by show some (Value.int .i64 _) = some (Value.int .i64 _); exact congrArg (fun z => some (Value.int .i64 z)) (by omega)), trivial⟩, HS.out⟩ ?_
   clear HF HS; clear a
   rintro k2 a w15 ⟨aw, cw, ws, ⟨hk, hwl, hw⟩, HF, HS⟩
   replace HS := Bx.mk HS
   refine wp_seq ?_
   refine wp_sr ?_
   refine wl_mv HF rfl rfl rfl rfl rfl ?_;clear HF a;intro a HF
   refine wl_y rfl HF rfl rfl (yl_gtrI rfl (HF.ev rfl) (HF.ev rfl)) ?_;clear HF a;intro a HF
   refine wl_ne ?_
   refine HF.cases 27 rfl (fun cc3 HF1 => ?_) (fun cc3 HF1 => ?_)
   ·clear HF; have HF := HF1; clear HF1
    have dcc3 := of_decide_eq_true cc3
    refine wc_true HF rfl ?_
    refine wp_skip ?_
    refine ex_then ?_
    refine wp_seq ?_
    refine wp_block ?_
    refine wr_marked (W := w0) (s := boxA b6 3 94 (.agg #[.slice (some ⟨g5, 0, none⟩) 64 qc4, .slice aw ws.length cw, .bool false]) :: rowA encS 1 9 (.slice (some ⟨g5, 0, none⟩) 64 qc4) cs :: boxA b1 3 94 (.agg #[.slice none 0 0, .slice none 0 0, .bool false]) :: F) 10 (by kernel_rfl) ?_
    have HS2 := Bx.mk HS.out.drew; replace HS := Bx.mk (show St w0 (boxA b6 3 94 (.agg #[.slice (some ⟨g5, 0, none⟩) 64 qc4, .slice aw ws.length cw, .bool false]) :: rowA encS 1 9 (.slice (some ⟨g5, 0, none⟩) 64 qc4) cs :: boxA b1 3 94 (.agg #[.slice none 0 0, .slice none 0 0, .bool false]) :: F) _ from ((HS.out.drew.erase 3).erase 0)); generalize World.drew _ = w16 at HS HS2 ⊢
    refine wm_t 0 rfl (by kernel_rfl) (by kernel_rfl) (by kernel_rfl) (fun _ _ _ h => h) (by decide) rfl HF rfl rfl (fun _ _ => (yl_fieldAddr (j := 1) rfl (HF.ev rfl) (by kernel_rfl))) (fun _ => HS.out) ?_;clear HF a;intro a HF
    refine wm_y 1 rfl (by kernel_rfl) (by kernel_rfl) (by kernel_rfl) (fun _ _ _ h => h) (by decide) (by kernel_rfl) (by kernel_rfl) rfl HF rfl rfl (fun _ HS => (yl_load (v := .slice aw ws.length cw) rfl (HF.ev rfl) (((HS.box 0 rfl).cell 1).trans rfl) (by kernel_rfl))) HS.out ?_;clear HF a;intro a HF
    refine wm_t 2 rfl (by kernel_rfl) (by kernel_rfl) (by kernel_rfl) (fun _ _ _ h => h) (by decide) rfl HF rfl rfl (fun _ _ => (yl_move rfl (HF.ev rfl))) (fun _ => HS.out) ?_;clear HF a;intro a HF
    refine wm_t 4 rfl (by kernel_rfl) (by kernel_rfl) (by kernel_rfl) (fun _ _ _ h => h) (by decide) rfl HF rfl rfl (fun _ _ => (yl_move rfl (HF.ev rfl))) (fun _ => HS.out) ?_;clear HF a;intro a HF
    refine wm_one 3 (by kernel_rfl) ?_
    replace HS2:=Bx.mk (HS2.out.pick 0 rfl)
    refine wo_call rfl rfl HF rfl (enter_of Tryz.func94 (by kernel_rfl) rfl) (args := #[.pointer (some ⟨rb, 0, none⟩), .int .i64 14]) rfl (pickN w0 _ rb ab n cb bs hn hR (B + 1 + 1 + 21 * k + 1 + 21 * k2) (by omega) 14 (by omega) _ HS2.out) rfl rfl ?_
    rintro _ w17 ⟨dn11, rfl, hu11, hs1⟩
    refine ⟨_, rfl, ?_⟩; replace HS2 := Bx.mk hs1; clear hs1 HF; clear a; intro a HF
    replace HS2 : Bx (St w0 (rdA rb ab n cb (B + 1 + 1 + 21 * k + 1 + 21 * k2 + 1) :: boxA b6 3 94 (.agg #[.slice (some ⟨g5, 0, none⟩) 64 qc4, .slice aw ws.length cw, .bool false]) :: rowA encS 1 9 (.slice (some ⟨g5, 0, none⟩) 64 qc4) cs :: rowA WaitD.cells 2 137 (.slice aw ws.length cw) ws :: boxA b1 3 94 (.agg #[.slice none 0 0, .slice none 0 0, .bool false]) :: F) _) := ⟨HS2.out⟩
    clear HS; have HS : Bx (St w0 (boxA b6 3 94 (.agg #[.slice (some ⟨g5, 0, none⟩) 64 qc4, .slice aw ws.length cw, .bool false]) :: rowA encS 1 9 (.slice (some ⟨g5, 0, none⟩) 64 qc4) cs :: boxA b1 3 94 (.agg #[.slice none 0 0, .slice none 0 0, .bool false]) :: F) _) := ⟨((HS2.out.erase 3).erase 0)⟩
    refine ⟨fun _ => HS.out, ?_⟩
    refine wm_one 5 (by kernel_rfl) ?_
    replace HS2:=Bx.mk (HS2.out.pick 0 rfl)
    refine wo_call rfl rfl HF rfl (enter_of Tryz.func138 (by kernel_rfl) rfl) (args := #[.pointer (some ⟨rb, 0, none⟩), .int .i64 9]) rfl (l91Text_any w0 _ rb ab n cb bs hn hR (B + 1 + 1 + 21 * k + 1 + 21 * k2 + 1) (by omega) 9 (by omega) _ HS2.out) rfl rfl ?_
    rintro _ w18 ⟨dt12, rfl, ht12, hs1⟩
    refine ⟨_, rfl, ?_⟩; replace HS2 := Bx.mk hs1; clear hs1 HF; clear a; intro a HF
    replace HS2 : Bx (St w0 (rdA rb ab n cb (B + 1 + 1 + 21 * k + 1 + 21 * k2 + 1 + (2 + 2 * 9)) :: boxA b6 3 94 (.agg #[.slice (some ⟨g5, 0, none⟩) 64 qc4, .slice aw ws.length cw, .bool false]) :: rowA encS 1 9 (.slice (some ⟨g5, 0, none⟩) 64 qc4) cs :: rowA WaitD.cells 2 137 (.slice aw ws.length cw) ws :: boxA b1 3 94 (.agg #[.slice none 0 0, .slice none 0 0, .bool false]) :: F) _) := ⟨HS2.out⟩
    clear HS; have HS : Bx (St w0 (boxA b6 3 94 (.agg #[.slice (some ⟨g5, 0, none⟩) 64 qc4, .slice aw ws.length cw, .bool false]) :: rowA encS 1 9 (.slice (some ⟨g5, 0, none⟩) 64 qc4) cs :: boxA b1 3 94 (.agg #[.slice none 0 0, .slice none 0 0, .bool false]) :: F) _) := ⟨((HS2.out.erase 3).erase 0)⟩
    refine ⟨fun _ => HS.out, ?_⟩
    refine wm_y 6 rfl (by kernel_rfl) (by kernel_rfl) (by kernel_rfl) (fun _ _ _ h => h) (by decide) (by kernel_rfl) (by kernel_rfl) rfl HF rfl rfl (fun _ HS => (yl_build HF rfl (ps := [(0, .int .i64 (dn11 : Int)), (1, .string dt12)]) rfl (cs := #[.int .i64 (dn11 : Int), .string dt12]) (by kernel_rfl))) HS.out ?_;clear HF a;intro a HF
    refine wm_one 7 (by kernel_rfl) ?_
    refine wo_buildS (enc := WaitD.cells) (e := 137) (size := 2) rfl rfl HF rfl rfl rfl (ps := [(0, .agg #[.int .i64 (dn11 : Int), .string dt12])]) rfl (cells := [.int .i64 (dn11 : Int), .string dt12]) (by kernel_rfl) [(⟨(dn11 : Int), dt12⟩ : WaitD)] rfl rfl (by unfold maxLen; omega) rfl HS2.out HS.out ?_; clear HF HS HS2 a; intro b13 a w19 HF HS2 HS; replace HS := Bx.mk HS; replace HS2 := Bx.mk HS2; refine ⟨fun _ => HS.out, ?_⟩
    refine wm_one 8 (by kernel_rfl) ?_
    refine wo_appL rfl rfl HF rfl rfl rfl (HF.ev rfl) (HF.ev rfl) elemW WaitD.cells_len HS2.out 4 (xs := ws) rfl (ys := [(⟨(dn11 : Int), dt12⟩ : WaitD)]) (St.rdN HS2.out WaitD.cells_len 0 rfl) (cells_one_W _) (by unfold maxLen; simp only [List.length_cons, List.length_nil]; omega) (by simp only [List.length_cons, List.length_nil]; omega) ?_; clear HF HS HS2 a; intro ao14 cp15 w20 a HF HS2; replace HS2 := Bx.mk HS2
    replace HS2 : Bx (St w0 (rowA WaitD.cells 2 137 (.slice (some ⟨b13, 0, none⟩) 1 1) ([(⟨(dn11 : Int), dt12⟩ : WaitD)]) :: rdA rb ab n cb (B + 1 + 1 + 21 * k + 1 + 21 * k2 + 1 + (2 + 2 * 9)) :: boxA b6 3 94 (.agg #[.slice (some ⟨g5, 0, none⟩) 64 qc4, .slice aw ws.length cw, .bool false]) :: rowA encS 1 9 (.slice (some ⟨g5, 0, none⟩) 64 qc4) cs :: rowA WaitD.cells 2 137 (.slice ao14 (ws.length + ([(⟨(dn11 : Int), dt12⟩ : WaitD)]).length) cp15) (ws ++ ([(⟨(dn11 : Int), dt12⟩ : WaitD)])) :: boxA b1 3 94 (.agg #[.slice none 0 0, .slice none 0 0, .bool false]) :: F) _) := ⟨HS2.out⟩
    have HS : Bx (St w0 (boxA b6 3 94 (.agg #[.slice (some ⟨g5, 0, none⟩) 64 qc4, .slice aw ws.length cw, .bool false]) :: rowA encS 1 9 (.slice (some ⟨g5, 0, none⟩) 64 qc4) cs :: boxA b1 3 94 (.agg #[.slice none 0 0, .slice none 0 0, .bool false]) :: F) _) := ⟨(((HS2.out.erase 4).erase 1).erase 0)⟩
    refine ⟨fun _ => HS.out, ?_⟩
    refine wm_t 9 rfl (by kernel_rfl) (by kernel_rfl) (by kernel_rfl) (fun _ _ _ h => h) (by decide) rfl HF rfl rfl (fun _ _ => (yl_fieldAddr (j := 1) rfl (HF.ev rfl) (by kernel_rfl))) (fun _ => HS.out) ?_;clear HF a;intro a HF
    refine wm_one 10 (by kernel_rfl) ?_
    refine wo_storeF rfl rfl rfl rfl (HF.ev rfl) (HF.ev rfl) (by kernel_rfl) HS2.out 2 rfl rfl rfl ?_
    clear HS2; intro w21 HS2; replace HS2 : Bx (St w0 (rowA WaitD.cells 2 137 (.slice (some ⟨b13, 0, none⟩) 1 1) ([(⟨(dn11 : Int), dt12⟩ : WaitD)]) :: rdA rb ab n cb (B + 1 + 1 + 21 * k + 1 + 21 * k2 + 1 + (2 + 2 * 9)) :: boxA b6 3 94 (.agg #[.slice (some ⟨g5, 0, none⟩) 64 qc4, .slice ao14 (ws.length + ([(⟨(dn11 : Int), dt12⟩ : WaitD)]).length) cp15, .bool false]) :: rowA encS 1 9 (.slice (some ⟨g5, 0, none⟩) 64 qc4) cs :: rowA WaitD.cells 2 137 (.slice ao14 (ws.length + ([(⟨(dn11 : Int), dt12⟩ : WaitD)]).length) cp15) (ws ++ ([(⟨(dn11 : Int), dt12⟩ : WaitD)])) :: boxA b1 3 94 (.agg #[.slice none 0 0, .slice none 0 0, .bool false]) :: F) _) := ⟨HS2⟩; refine ⟨(fun h => absurd (show true = false from h) (by decide)), ?_⟩
    refine wm_done (by kernel_rfl) ?_
    clear HS; have HS := HS2; clear HS2
    refine ex_block ?_
    refine ex_then ?_
    refine wp_region_lit ?_
    refine wl_mv HF rfl rfl rfl rfl rfl ?_;clear HF a;intro a HF
    refine wl_y rfl HF rfl rfl (yl_subI rfl (HF.ev rfl) (HF.ev rfl) (i64w (by omega))) ?_;clear HF a;intro a HF
    refine wl_as HF rfl rfl rfl rfl rfl ?_;clear HF a;intro a HF
    refine wl_ne ?_
    replace HS:=Bx.mk (HS.out.pick 1 rfl)
    replace HS : Bx (St w0 (rdA rb ab n cb (B + 1 + 1 + 21 * k + 1 + 21 * (k2 + 1)) :: rowA WaitD.cells 2 137 (.slice (some ⟨b13, 0, none⟩) 1 1) ([(⟨(dn11 : Int), dt12⟩ : WaitD)]) :: boxA b6 3 94 (.agg #[.slice (some ⟨g5, 0, none⟩) 64 qc4, .slice ao14 (ws.length + ([(⟨(dn11 : Int), dt12⟩ : WaitD)]).length) cp15, .bool false]) :: rowA encS 1 9 (.slice (some ⟨g5, 0, none⟩) 64 qc4) cs :: rowA WaitD.cells 2 137 (.slice ao14 (ws.length + ([(⟨(dn11 : Int), dt12⟩ : WaitD)]).length) cp15) (ws ++ ([(⟨(dn11 : Int), dt12⟩ : WaitD)])) :: boxA b1 3 94 (.agg #[.slice none 0 0, .slice none 0 0, .bool false]) :: F) _) := ⟨HS.out.rdLe (by omega)⟩
    have hz : ws.length + ([(⟨(dn11 : Int), dt12⟩ : WaitD)]).length = (ws ++ ([(⟨(dn11 : Int), dt12⟩ : WaitD)])).length := (List.length_append ..).symm
    rw [hz] at HS
    have hz1 : (ws ++ ([(⟨(dn11 : Int), dt12⟩ : WaitD)])).length = ws.length + 1 := by rw [List.length_append]; rfl
    replace HS:=Bx.mk (((((HS.out.pick 5 rfl).pick 5 rfl).pick 5 rfl).pick 5 rfl).pick 4 rfl)
    exact ⟨k2 + 1, ⟨_, _, ws ++ ([(⟨(dn11 : Int), dt12⟩ : WaitD)]), ⟨by omega, by omega, (fun x hx => (List.mem_append.1 hx).elim (hw x) fun e => by rw [List.mem_singleton.1 e]; show dt12.size ≤ 1000; first | omega | decide)⟩, HF.less _ ⟨rfl, rfl, rfl, (by show some (Value.int .i64 _) = some (Value.int .i64 _); exact congrArg (fun z => some (Value.int .i64 z)) (by omega)), trivial⟩, (HS.out.erase 5)⟩, (by omega)⟩
   ·clear HF; have HF := HF1; clear HF1
    have dcc3 := of_decide_eq_false cc3
    refine wc_false HF rfl ?_
    refine wp_exit ?_
    refine ex_then_exit ?_
    refine ex_then_exit ?_
    refine ex_block_hit ?_
    refine ex_then ?_
    refine wp_seq ?_
    refine wp_sr ?_
    refine wl_mv HF rfl rfl rfl rfl rfl ?_;clear HF a;intro a HF
    replace HS:=Bx.mk (HS.out.pick 0 rfl)
    refine wl_call rfl HF rfl (enter_of Tryz.func94 (by kernel_rfl) rfl) (args := #[.pointer (some ⟨rb, 0, none⟩), .int .i64 30]) rfl (pickN w0 _ rb ab n cb bs hn hR (B + 1 + 1 + 21 * k + 1 + 21 * k2) (by omega) 30 (by omega) _ HS.out) rfl rfl ?_
    rintro _ w22 ⟨dn16, rfl, hu16, hs1⟩
    refine ⟨_, rfl, ?_⟩; replace HS := Bx.mk hs1; clear hs1 HF; clear a; intro a HF
    replace HS : Bx (St w0 (rdA rb ab n cb (B + 1 + 1 + 21 * k + 1 + 21 * k2 + 1) :: boxA b6 3 94 (.agg #[.slice (some ⟨g5, 0, none⟩) 64 qc4, .slice aw ws.length cw, .bool false]) :: rowA encS 1 9 (.slice (some ⟨g5, 0, none⟩) 64 qc4) cs :: rowA WaitD.cells 2 137 (.slice aw ws.length cw) ws :: boxA b1 3 94 (.agg #[.slice none 0 0, .slice none 0 0, .bool false]) :: F) _) := ⟨HS.out⟩
    refine wl_ne ?_
    refine wp_block ?_
    refine wp_sr ?_
    refine wl_y rfl HF rfl rfl (yl_eqlI rfl (HF.ev rfl) (HF.ev rfl)) ?_;clear HF a;intro a HF
    refine wl_as HF rfl rfl rfl rfl rfl ?_;clear HF a;intro a HF
    refine wl_ne ?_
    refine HF.cases 42 rfl (fun cc4 HF1 => ?_) (fun cc4 HF1 => ?_)
    ·clear HF; have HF := HF1; clear HF1
     have dcc4 := eq_of_beq cc4
     refine wc_true HF rfl ?_
     refine wp_region_lit ?_
     refine wl_y rfl HF rfl rfl (yl_fieldAddr (j := 0) rfl (HF.ev rfl) (by kernel_rfl)) ?_;clear HF a;intro a HF
     refine wl_y rfl HF rfl rfl (yl_load (v := .slice (some ⟨g5, 0, none⟩) 64 qc4) rfl (HF.ev rfl) (((HS.out.box 1 rfl).cell 0).trans rfl) (by kernel_rfl)) ?_;clear HF a;intro a HF
     refine wl_y rfl HF rfl rfl (yl_sliceLo (e := 9) (size := 1) (k := 1) rfl (HF.ev rfl) (HF.ev rfl) (by kernel_rfl) (by omega) (by omega) (Nat.lt_of_lt_of_le (by omega) (St.capLe HS.out 2 rfl))) ?_;clear HF a;intro a HF
     refine wl_y rfl HF rfl rfl (yl_fieldAddr (j := 0) rfl (HF.ev rfl) (by kernel_rfl)) ?_;clear HF a;intro a HF
     refine wl_storeF rfl rfl rfl (HF.ev rfl) (HF.ev rfl) (by kernel_rfl) HS.out 1 rfl rfl rfl ?_; clear HS; intro w23 HS; replace HS := Bx.mk HS
     have HS : Bx (St w0 (rdA rb ab n cb (B + 1 + 1 + 21 * k + 1 + 21 * k2 + 1) :: boxA b6 3 94 (.agg #[.slice (some ⟨g5, 0 + 1 * 1, none⟩) (64 - 1) (qc4 - 1), .slice aw ws.length cw, .bool false]) :: rowA encS 1 9 (.slice (some ⟨g5, 0, none⟩) 64 qc4) cs :: rowA WaitD.cells 2 137 (.slice aw ws.length cw) ws :: boxA b1 3 94 (.agg #[.slice none 0 0, .slice none 0 0, .bool false]) :: F) _) := HS
     refine wpList_nil ?_
     refine ex_block ?_
     refine ex_then ?_
     refine wp_sr ?_
     refine wl_y rfl HF rfl rfl (yl_loadR (cs := [.slice (some ⟨g5, 0 + 1 * 1, none⟩) (64 - 1) (qc4 - 1), .slice aw ws.length cw, .bool false]) rfl (HF.ev rfl) ((HS.out.box 1 rfl).sub 0 3) (by kernel_rfl)) ?_;clear HF a;intro a HF
     refine wl_storeBox rfl HF rfl rfl (HF.ev rfl) (HF.ev rfl) HS.out 4 rfl (cells_lit [.slice (some ⟨g5, 0 + 1 * 1, none⟩) (64 - 1) (qc4 - 1), .slice aw ws.length cw, .bool false] rfl rfl) (by kernel_rfl) ?_; clear HS; intro w24 HS; replace HS := Bx.mk HS
     have HS : Bx (St w0 (rdA rb ab n cb (B + 1 + 1 + 21 * k + 1 + 21 * k2 + 1) :: boxA b6 3 94 (.agg #[.slice (some ⟨g5, 0 + 1 * 1, none⟩) (64 - 1) (qc4 - 1), .slice aw ws.length cw, .bool false]) :: rowA encS 1 9 (.slice (some ⟨g5, 0, none⟩) 64 qc4) cs :: rowA WaitD.cells 2 137 (.slice aw ws.length cw) ws :: boxA b1 3 94 (.agg #[.slice (some ⟨g5, 0 + 1 * 1, none⟩) (64 - 1) (qc4 - 1), .slice aw ws.length cw, .bool false]) :: F) _) := HS
     refine wl_ne ?_
     refine wp_ret ?_
     refine bp_ret1 HF Tryz.results97 (HF.resBox rfl (HS.out.box 4 rfl) (by kernel_rfl)) ?_
     replace HS:=Bx.mk (((HS.out.pick 3 rfl).pick 3 rfl).pick 2 rfl)
     have hwz : ∀ x, x ∈ ws → x.fText.size ≤ 1000 := hw
     have HT := ((St.join (r := [_, _]) (s := _)).1 (((HS.out.rdLe (B' := B + 500) (by omega)).pick 1 rfl).pick 2 rfl).swap).hold (P := fun w => HD.reads w (⟨some ⟨g5, 0 + 1 * 1, none⟩, qc4 - 1, aw, cw, (⟨cs.drop 1, ws, false⟩ : DiskD)⟩ : HD)) (fun w f h => cut_reads (k := 1) hcl (by omega) h)
     refine ⟨(⟨some ⟨g5, 0 + 1 * 1, none⟩, qc4 - 1, aw, cw, (⟨cs.drop 1, ws, false⟩ : DiskD)⟩ : HD), fits_of (by rw [List.length_drop]; omega) (by omega) (fun x hx => hc x (List.mem_of_mem_drop hx)) hwz, ?_, ((HT.swap.erase 3).erase 2)⟩
     show _ = Ending.returned (.agg #[.slice (some ⟨g5, 0 + 1 * 1, none⟩) (cs.drop 1).length (qc4 - 1), .slice aw (ws).length cw, .bool false])
     rw [List.length_drop, hcl]; all_goals rfl
    ·clear HF; have HF := HF1; clear HF1
     have dcc4 := ne_of_beq_false cc4
     refine wc_false HF rfl ?_
     refine wp_sr ?_
     refine wl_y rfl HF rfl rfl (yl_eqlI rfl (HF.ev rfl) (HF.ev rfl)) ?_;clear HF a;intro a HF
     refine wl_as HF rfl rfl rfl rfl rfl ?_;clear HF a;intro a HF
     refine wl_ne ?_
     refine HF.cases 48 rfl (fun cc5 HF1 => ?_) (fun cc5 HF1 => ?_)
     ·clear HF; have HF := HF1; clear HF1
      have dcc5 := eq_of_beq cc5
      refine wc_true HF rfl ?_
      refine wp_region_lit ?_
      refine wl_y rfl HF rfl rfl (yl_fieldAddr (j := 2) rfl (HF.ev rfl) (by kernel_rfl)) ?_;clear HF a;intro a HF
      refine wl_storeF rfl rfl rfl (HF.ev rfl) (HF.ev rfl) (by kernel_rfl) HS.out 1 rfl rfl rfl ?_; clear HS; intro w25 HS; replace HS := Bx.mk HS
      have HS : Bx (St w0 (rdA rb ab n cb (B + 1 + 1 + 21 * k + 1 + 21 * k2 + 1) :: boxA b6 3 94 (.agg #[.slice (some ⟨g5, 0, none⟩) 64 qc4, .slice aw ws.length cw, .bool true]) :: rowA encS 1 9 (.slice (some ⟨g5, 0, none⟩) 64 qc4) cs :: rowA WaitD.cells 2 137 (.slice aw ws.length cw) ws :: boxA b1 3 94 (.agg #[.slice none 0 0, .slice none 0 0, .bool false]) :: F) _) := HS
      refine wpList_nil ?_
      refine ex_block ?_
      refine ex_then ?_
      refine wp_sr ?_
      refine wl_y rfl HF rfl rfl (yl_loadR (cs := [.slice (some ⟨g5, 0, none⟩) 64 qc4, .slice aw ws.length cw, .bool true]) rfl (HF.ev rfl) ((HS.out.box 1 rfl).sub 0 3) (by kernel_rfl)) ?_;clear HF a;intro a HF
      refine wl_storeBox rfl HF rfl rfl (HF.ev rfl) (HF.ev rfl) HS.out 4 rfl (cells_lit [.slice (some ⟨g5, 0, none⟩) 64 qc4, .slice aw ws.length cw, .bool true] rfl rfl) (by kernel_rfl) ?_; clear HS; intro w26 HS; replace HS := Bx.mk HS
      have HS : Bx (St w0 (rdA rb ab n cb (B + 1 + 1 + 21 * k + 1 + 21 * k2 + 1) :: boxA b6 3 94 (.agg #[.slice (some ⟨g5, 0, none⟩) 64 qc4, .slice aw ws.length cw, .bool true]) :: rowA encS 1 9 (.slice (some ⟨g5, 0, none⟩) 64 qc4) cs :: rowA WaitD.cells 2 137 (.slice aw ws.length cw) ws :: boxA b1 3 94 (.agg #[.slice (some ⟨g5, 0, none⟩) 64 qc4, .slice aw ws.length cw, .bool true]) :: F) _) := HS
      refine wl_ne ?_
      refine wp_ret ?_
      refine bp_ret1 HF Tryz.results97 (HF.resBox rfl (HS.out.box 4 rfl) (by kernel_rfl)) ?_
      replace HS:=Bx.mk (((HS.out.pick 3 rfl).pick 3 rfl).pick 2 rfl)
      have hwz : ∀ x, x ∈ ws → x.fText.size ≤ 1000 := hw
      have HT := ((St.join (r := [_, _]) (s := _)).1 (((HS.out.rdLe (B' := B + 500) (by omega)).pick 1 rfl).pick 2 rfl).swap).hold (P := fun w => HD.reads w (⟨some ⟨g5, 0 + 0 * 1, none⟩, qc4 - 0, aw, cw, (⟨cs.drop 0, ws, true⟩ : DiskD)⟩ : HD)) (fun w f h => cut_reads (k := 0) hcl (by omega) h)
      refine ⟨(⟨some ⟨g5, 0 + 0 * 1, none⟩, qc4 - 0, aw, cw, (⟨cs.drop 0, ws, true⟩ : DiskD)⟩ : HD), fits_of (by rw [List.length_drop]; omega) (by omega) (fun x hx => hc x (List.mem_of_mem_drop hx)) hwz, ?_, ((HT.swap.erase 3).erase 2)⟩
      show _ = Ending.returned (.agg #[.slice (some ⟨g5, 0 + 0 * 1, none⟩) (cs.drop 0).length (qc4 - 0), .slice aw (ws).length cw, .bool true])
      rw [List.length_drop, hcl]; all_goals rfl
     ·clear HF; have HF := HF1; clear HF1
      have dcc5 := ne_of_beq_false cc5
      refine wc_false HF rfl ?_
      refine wp_sr ?_
      refine wl_y rfl HF rfl rfl (yl_eqlI rfl (HF.ev rfl) (HF.ev rfl)) ?_;clear HF a;intro a HF
      refine wl_as HF rfl rfl rfl rfl rfl ?_;clear HF a;intro a HF
      refine wl_ne ?_
      refine HF.cases 51 rfl (fun cc6 HF1 => ?_) (fun cc6 HF1 => ?_)
      ·clear HF; have HF := HF1; clear HF1
       have dcc6 := eq_of_beq cc6
       refine wc_true HF rfl ?_
       refine wp_join (R := fun a w => ∃ (b19 : Nat) (dn18 : Nat) (b17 : Nat) (ao20 : Option Addr) (cp21 : Nat), Fr 93 a [(0, .pointer (some ⟨rb, 0, none⟩)), (2, .pointer (some ⟨b1, 0, none⟩)), (3, .pointer (some ⟨b6, 0, none⟩)), (5, .int .i64 ((dn10 : Int) - (k2 : Int))), (26, .int .i64 ((dn10 : Int) - (k2 : Int))), (27, .bool false), (40, .pointer (some ⟨rb, 0, none⟩)), (41, .int .i64 (dn16 : Int)), (43, .bool ((dn16 : Int) == 0)), (42, .bool false), (49, .bool ((dn16 : Int) == 1)), (48, .bool false), (52, .bool ((dn16 : Int) == 2)), (51, .bool true)] ∧ St w0 (rowA WaitD.cells 2 137 (.slice (some ⟨b19, 0, none⟩) 1 1) ([(⟨(([(-1 : Int), (64 : Int)]).getD dn18 0), (⟨#[119]⟩ : ByteArray)⟩ : WaitD)]) :: rdA rb ab n cb (B + 1 + 1 + 21 * k + 1 + 21 * k2 + 1 + 1) :: rowA encI 1 3 (.slice (some ⟨b17, 0, none⟩) 2 2) ([(-1 : Int), (64 : Int)]) :: boxA b6 3 94 (.agg #[.slice (some ⟨g5, 0, none⟩) 64 qc4, .slice ao20 (ws.length + ([(⟨(([(-1 : Int), (64 : Int)]).getD dn18 0), (⟨#[119]⟩ : ByteArray)⟩ : WaitD)]).length) cp21, .bool false]) :: rowA encS 1 9 (.slice (some ⟨g5, 0, none⟩) 64 qc4) cs :: rowA WaitD.cells 2 137 (.slice ao20 (ws.length + ([(⟨(([(-1 : Int), (64 : Int)]).getD dn18 0), (⟨#[119]⟩ : ByteArray)⟩ : WaitD)]).length) cp21) (ws ++ ([(⟨(([(-1 : Int), (64 : Int)]).getD dn18 0), (⟨#[119]⟩ : ByteArray)⟩ : WaitD)])) :: boxA b1 3 94 (.agg #[.slice none 0 0, .slice none 0 0, .bool false]) :: F) w) ?_ ?_
       ·skip
        have hl2 : [(-1 : Int), (64 : Int)].length = 2 := rfl
        refine wr_marked (W := w0) (s := boxA b6 3 94 (.agg #[.slice (some ⟨g5, 0, none⟩) 64 qc4, .slice aw ws.length cw, .bool false]) :: rowA encS 1 9 (.slice (some ⟨g5, 0, none⟩) 64 qc4) cs :: boxA b1 3 94 (.agg #[.slice none 0 0, .slice none 0 0, .bool false]) :: F) 11 (by kernel_rfl) ?_
        have HS2 := Bx.mk HS.out.drew; replace HS := Bx.mk (show St w0 (boxA b6 3 94 (.agg #[.slice (some ⟨g5, 0, none⟩) 64 qc4, .slice aw ws.length cw, .bool false]) :: rowA encS 1 9 (.slice (some ⟨g5, 0, none⟩) 64 qc4) cs :: boxA b1 3 94 (.agg #[.slice none 0 0, .slice none 0 0, .bool false]) :: F) _ from ((HS.out.drew.erase 3).erase 0)); generalize World.drew _ = w27 at HS HS2 ⊢
        refine wm_t 0 rfl (by kernel_rfl) (by kernel_rfl) (by kernel_rfl) (fun _ _ _ h => h) (by decide) rfl HF rfl rfl (fun _ _ => (yl_fieldAddr (j := 1) rfl (HF.ev rfl) (by kernel_rfl))) (fun _ => HS.out) ?_;clear HF a;intro a HF
        refine wm_y 1 rfl (by kernel_rfl) (by kernel_rfl) (by kernel_rfl) (fun _ _ _ h => h) (by decide) (by kernel_rfl) (by kernel_rfl) rfl HF rfl rfl (fun _ HS => (yl_load (v := .slice aw ws.length cw) rfl (HF.ev rfl) (((HS.box 0 rfl).cell 1).trans rfl) (by kernel_rfl))) HS.out ?_;clear HF a;intro a HF
        refine wm_t 3 rfl (by kernel_rfl) (by kernel_rfl) (by kernel_rfl) (fun _ _ _ h => h) (by decide) rfl HF rfl rfl (fun _ _ => (yl_move rfl (HF.ev rfl))) (fun _ => HS.out) ?_;clear HF a;intro a HF
        refine wm_two 2 4 (by kernel_rfl) ?_ ?_
        ·skip
         refine wo_buildS (enc := encI) (e := 3) (size := 1) rfl rfl HF rfl rfl rfl (ps := [(0, .int .i64 (-1)), (1, .int .i64 64)]) rfl (cells := [.int .i64 (-1), .int .i64 64]) (by kernel_rfl) [(-1 : Int), (64 : Int)] rfl rfl (by unfold maxLen; omega) rfl HS2.out HS.out ?_; clear HF HS HS2 a; intro b17 a w28 HF HS2 HS; replace HS := Bx.mk HS; replace HS2 := Bx.mk HS2; refine ⟨fun _ => HS.out, ?_⟩
         refine wm_one 4 (by kernel_rfl) ?_
         replace HS2:=Bx.mk (HS2.out.pick 1 rfl)
         refine wo_call rfl rfl HF rfl (enter_of Tryz.func94 (by kernel_rfl) rfl) (args := #[.pointer (some ⟨rb, 0, none⟩), .int .i64 2]) rfl (pickN w0 _ rb ab n cb bs hn hR (B + 1 + 1 + 21 * k + 1 + 21 * k2 + 1) (by omega) 2 (by omega) _ HS2.out) rfl rfl ?_
         rintro _ w29 ⟨dn18, rfl, hu18, hs1⟩
         refine ⟨_, rfl, ?_⟩; replace HS2 := Bx.mk hs1; clear hs1 HF; clear a; intro a HF
         replace HS2 : Bx (St w0 (rdA rb ab n cb (B + 1 + 1 + 21 * k + 1 + 21 * k2 + 1 + 1) :: rowA encI 1 3 (.slice (some ⟨b17, 0, none⟩) 2 2) ([(-1 : Int), (64 : Int)]) :: boxA b6 3 94 (.agg #[.slice (some ⟨g5, 0, none⟩) 64 qc4, .slice aw ws.length cw, .bool false]) :: rowA encS 1 9 (.slice (some ⟨g5, 0, none⟩) 64 qc4) cs :: rowA WaitD.cells 2 137 (.slice aw ws.length cw) ws :: boxA b1 3 94 (.agg #[.slice none 0 0, .slice none 0 0, .bool false]) :: F) _) := ⟨HS2.out⟩
         clear HS; have HS : Bx (St w0 (boxA b6 3 94 (.agg #[.slice (some ⟨g5, 0, none⟩) 64 qc4, .slice aw ws.length cw, .bool false]) :: rowA encS 1 9 (.slice (some ⟨g5, 0, none⟩) 64 qc4) cs :: boxA b1 3 94 (.agg #[.slice none 0 0, .slice none 0 0, .bool false]) :: F) _) := ⟨(((HS2.out.erase 4).erase 1).erase 0)⟩
         refine ⟨fun _ => HS.out, ?_⟩
         refine wm_y 5 rfl (by kernel_rfl) (by kernel_rfl) (by kernel_rfl) (fun _ _ _ h => h) (by decide) (by kernel_rfl) (by kernel_rfl) rfl HF rfl rfl (fun _ HS => (yl_indexAddr (e := 3) (i := dn18) (size := 1) rfl (HF.ev rfl) (HF.ev rfl) (by kernel_rfl) rfl (by omega))) HS.out ?_;clear HF a;intro a HF
         refine wm_one 6 (by kernel_rfl) ?_
         refine wo_y rfl rfl HF rfl rfl (yl_load (v := .int .i64 (([(-1 : Int), (64 : Int)]).getD dn18 0)) rfl (HF.ev rfl) (HS2.out.elem1 encI_len 1 rfl (get_getD (xs := [(-1 : Int), (64 : Int)]) (j := dn18) (d := 0) (by omega)) rfl) (by kernel_rfl)) ?_;clear HF a;intro a HF; refine ⟨fun _ => HS.out, ?_⟩
         refine wm_y 7 rfl (by kernel_rfl) (by kernel_rfl) (by kernel_rfl) (fun _ _ _ h => h) (by decide) (by kernel_rfl) (by kernel_rfl) rfl HF rfl rfl (fun _ HS => (yl_build HF rfl (ps := [(0, .int .i64 (([(-1 : Int), (64 : Int)]).getD dn18 0)), (1, .string (⟨#[119]⟩ : ByteArray))]) rfl (cs := #[.int .i64 (([(-1 : Int), (64 : Int)]).getD dn18 0), .string (⟨#[119]⟩ : ByteArray)]) (by kernel_rfl))) HS.out ?_;clear HF a;intro a HF
         refine wm_one 8 (by kernel_rfl) ?_
         refine wo_buildS (enc := WaitD.cells) (e := 137) (size := 2) rfl rfl HF rfl rfl rfl (ps := [(0, .agg #[.int .i64 (([(-1 : Int), (64 : Int)]).getD dn18 0), .string (⟨#[119]⟩ : ByteArray)])]) rfl (cells := [.int .i64 (([(-1 : Int), (64 : Int)]).getD dn18 0), .string (⟨#[119]⟩ : ByteArray)]) (by kernel_rfl) [(⟨(([(-1 : Int), (64 : Int)]).getD dn18 0), (⟨#[119]⟩ : ByteArray)⟩ : WaitD)] rfl rfl (by unfold maxLen; omega) rfl HS2.out HS.out ?_; clear HF HS HS2 a; intro b19 a w30 HF HS2 HS; replace HS := Bx.mk HS; replace HS2 := Bx.mk HS2; refine ⟨fun _ => HS.out, ?_⟩
         refine wm_one 9 (by kernel_rfl) ?_
         refine wo_appL rfl rfl HF rfl rfl rfl (HF.ev rfl) (HF.ev rfl) elemW WaitD.cells_len HS2.out 5 (xs := ws) rfl (ys := [(⟨(([(-1 : Int), (64 : Int)]).getD dn18 0), (⟨#[119]⟩ : ByteArray)⟩ : WaitD)]) (St.rdN HS2.out WaitD.cells_len 0 rfl) (cells_one_W _) (by unfold maxLen; simp only [List.length_cons, List.length_nil]; omega) (by simp only [List.length_cons, List.length_nil]; omega) ?_; clear HF HS HS2 a; intro ao20 cp21 w31 a HF HS2; replace HS2 := Bx.mk HS2
         replace HS2 : Bx (St w0 (rowA WaitD.cells 2 137 (.slice (some ⟨b19, 0, none⟩) 1 1) ([(⟨(([(-1 : Int), (64 : Int)]).getD dn18 0), (⟨#[119]⟩ : ByteArray)⟩ : WaitD)]) :: rdA rb ab n cb (B + 1 + 1 + 21 * k + 1 + 21 * k2 + 1 + 1) :: rowA encI 1 3 (.slice (some ⟨b17, 0, none⟩) 2 2) ([(-1 : Int), (64 : Int)]) :: boxA b6 3 94 (.agg #[.slice (some ⟨g5, 0, none⟩) 64 qc4, .slice aw ws.length cw, .bool false]) :: rowA encS 1 9 (.slice (some ⟨g5, 0, none⟩) 64 qc4) cs :: rowA WaitD.cells 2 137 (.slice ao20 (ws.length + ([(⟨(([(-1 : Int), (64 : Int)]).getD dn18 0), (⟨#[119]⟩ : ByteArray)⟩ : WaitD)]).length) cp21) (ws ++ ([(⟨(([(-1 : Int), (64 : Int)]).getD dn18 0), (⟨#[119]⟩ : ByteArray)⟩ : WaitD)])) :: boxA b1 3 94 (.agg #[.slice none 0 0, .slice none 0 0, .bool false]) :: F) _) := ⟨HS2.out⟩
         have HS : Bx (St w0 (boxA b6 3 94 (.agg #[.slice (some ⟨g5, 0, none⟩) 64 qc4, .slice aw ws.length cw, .bool false]) :: rowA encS 1 9 (.slice (some ⟨g5, 0, none⟩) 64 qc4) cs :: boxA b1 3 94 (.agg #[.slice none 0 0, .slice none 0 0, .bool false]) :: F) _) := ⟨((((HS2.out.erase 5).erase 2).erase 1).erase 0)⟩
         refine ⟨fun _ => HS.out, ?_⟩
         refine wm_t 10 rfl (by kernel_rfl) (by kernel_rfl) (by kernel_rfl) (fun _ _ _ h => h) (by decide) rfl HF rfl rfl (fun _ _ => (yl_fieldAddr (j := 1) rfl (HF.ev rfl) (by kernel_rfl))) (fun _ => HS.out) ?_;clear HF a;intro a HF
         refine wm_one 11 (by kernel_rfl) ?_
         refine wo_storeF rfl rfl rfl rfl (HF.ev rfl) (HF.ev rfl) (by kernel_rfl) HS2.out 3 rfl rfl rfl ?_
         clear HS2; intro w32 HS2; replace HS2 : Bx (St w0 (rowA WaitD.cells 2 137 (.slice (some ⟨b19, 0, none⟩) 1 1) ([(⟨(([(-1 : Int), (64 : Int)]).getD dn18 0), (⟨#[119]⟩ : ByteArray)⟩ : WaitD)]) :: rdA rb ab n cb (B + 1 + 1 + 21 * k + 1 + 21 * k2 + 1 + 1) :: rowA encI 1 3 (.slice (some ⟨b17, 0, none⟩) 2 2) ([(-1 : Int), (64 : Int)]) :: boxA b6 3 94 (.agg #[.slice (some ⟨g5, 0, none⟩) 64 qc4, .slice ao20 (ws.length + ([(⟨(([(-1 : Int), (64 : Int)]).getD dn18 0), (⟨#[119]⟩ : ByteArray)⟩ : WaitD)]).length) cp21, .bool false]) :: rowA encS 1 9 (.slice (some ⟨g5, 0, none⟩) 64 qc4) cs :: rowA WaitD.cells 2 137 (.slice ao20 (ws.length + ([(⟨(([(-1 : Int), (64 : Int)]).getD dn18 0), (⟨#[119]⟩ : ByteArray)⟩ : WaitD)]).length) cp21) (ws ++ ([(⟨(([(-1 : Int), (64 : Int)]).getD dn18 0), (⟨#[119]⟩ : ByteArray)⟩ : WaitD)])) :: boxA b1 3 94 (.agg #[.slice none 0 0, .slice none 0 0, .bool false]) :: F) _) := ⟨HS2⟩; refine ⟨(fun h => absurd (show true = false from h) (by decide)), ?_⟩
         refine wm_done (by kernel_rfl) ?_
         clear HS; have HS := HS2; clear HS2
         exact on_mk ⟨_, _, _, _, _, HF.less _ ⟨rfl, rfl, rfl, rfl, rfl, rfl, rfl, rfl, rfl, rfl, rfl, rfl, rfl, rfl, trivial⟩, HS.out⟩
        ·skip
         replace HS2:=Bx.mk (HS2.out.pick 0 rfl)
         refine wo_call rfl rfl HF rfl (enter_of Tryz.func94 (by kernel_rfl) rfl) (args := #[.pointer (some ⟨rb, 0, none⟩), .int .i64 2]) rfl (pickN w0 _ rb ab n cb bs hn hR (B + 1 + 1 + 21 * k + 1 + 21 * k2 + 1) (by omega) 2 (by omega) _ HS2.out) rfl rfl ?_
         rintro _ w33 ⟨dn22, rfl, hu22, hs1⟩
         refine ⟨_, rfl, ?_⟩; replace HS2 := Bx.mk hs1; clear hs1 HF; clear a; intro a HF
         replace HS2 : Bx (St w0 (rdA rb ab n cb (B + 1 + 1 + 21 * k + 1 + 21 * k2 + 1 + 1) :: boxA b6 3 94 (.agg #[.slice (some ⟨g5, 0, none⟩) 64 qc4, .slice aw ws.length cw, .bool false]) :: rowA encS 1 9 (.slice (some ⟨g5, 0, none⟩) 64 qc4) cs :: rowA WaitD.cells 2 137 (.slice aw ws.length cw) ws :: boxA b1 3 94 (.agg #[.slice none 0 0, .slice none 0 0, .bool false]) :: F) _) := ⟨HS2.out⟩
         clear HS; have HS : Bx (St w0 (boxA b6 3 94 (.agg #[.slice (some ⟨g5, 0, none⟩) 64 qc4, .slice aw ws.length cw, .bool false]) :: rowA encS 1 9 (.slice (some ⟨g5, 0, none⟩) 64 qc4) cs :: boxA b1 3 94 (.agg #[.slice none 0 0, .slice none 0 0, .bool false]) :: F) _) := ⟨((HS2.out.erase 3).erase 0)⟩
         refine ⟨fun _ => HS.out, ?_⟩
         refine wm_one 2 (by kernel_rfl) ?_
         refine wo_buildS (enc := encI) (e := 3) (size := 1) rfl rfl HF rfl rfl rfl (ps := [(0, .int .i64 (-1)), (1, .int .i64 64)]) rfl (cells := [.int .i64 (-1), .int .i64 64]) (by kernel_rfl) [(-1 : Int), (64 : Int)] rfl rfl (by unfold maxLen; omega) rfl HS2.out HS.out ?_; clear HF HS HS2 a; intro b23 a w34 HF HS2 HS; replace HS := Bx.mk HS; replace HS2 := Bx.mk HS2; refine ⟨fun _ => HS.out, ?_⟩
         refine wm_y 5 rfl (by kernel_rfl) (by kernel_rfl) (by kernel_rfl) (fun _ _ _ h => h) (by decide) (by kernel_rfl) (by kernel_rfl) rfl HF rfl rfl (fun _ HS => (yl_indexAddr (e := 3) (i := dn22) (size := 1) rfl (HF.ev rfl) (HF.ev rfl) (by kernel_rfl) rfl (by omega))) HS.out ?_;clear HF a;intro a HF
         refine wm_one 6 (by kernel_rfl) ?_
         refine wo_y rfl rfl HF rfl rfl (yl_load (v := .int .i64 (([(-1 : Int), (64 : Int)]).getD dn22 0)) rfl (HF.ev rfl) (HS2.out.elem1 encI_len 0 rfl (get_getD (xs := [(-1 : Int), (64 : Int)]) (j := dn22) (d := 0) (by omega)) rfl) (by kernel_rfl)) ?_;clear HF a;intro a HF; refine ⟨fun _ => HS.out, ?_⟩
         refine wm_y 7 rfl (by kernel_rfl) (by kernel_rfl) (by kernel_rfl) (fun _ _ _ h => h) (by decide) (by kernel_rfl) (by kernel_rfl) rfl HF rfl rfl (fun _ HS => (yl_build HF rfl (ps := [(0, .int .i64 (([(-1 : Int), (64 : Int)]).getD dn22 0)), (1, .string (⟨#[119]⟩ : ByteArray))]) rfl (cs := #[.int .i64 (([(-1 : Int), (64 : Int)]).getD dn22 0), .string (⟨#[119]⟩ : ByteArray)]) (by kernel_rfl))) HS.out ?_;clear HF a;intro a HF
         refine wm_one 8 (by kernel_rfl) ?_
         refine wo_buildS (enc := WaitD.cells) (e := 137) (size := 2) rfl rfl HF rfl rfl rfl (ps := [(0, .agg #[.int .i64 (([(-1 : Int), (64 : Int)]).getD dn22 0), .string (⟨#[119]⟩ : ByteArray)])]) rfl (cells := [.int .i64 (([(-1 : Int), (64 : Int)]).getD dn22 0), .string (⟨#[119]⟩ : ByteArray)]) (by kernel_rfl) [(⟨(([(-1 : Int), (64 : Int)]).getD dn22 0), (⟨#[119]⟩ : ByteArray)⟩ : WaitD)] rfl rfl (by unfold maxLen; omega) rfl HS2.out HS.out ?_; clear HF HS HS2 a; intro b24 a w35 HF HS2 HS; replace HS := Bx.mk HS; replace HS2 := Bx.mk HS2; refine ⟨fun _ => HS.out, ?_⟩
         refine wm_one 9 (by kernel_rfl) ?_
         refine wo_appL rfl rfl HF rfl rfl rfl (HF.ev rfl) (HF.ev rfl) elemW WaitD.cells_len HS2.out 5 (xs := ws) rfl (ys := [(⟨(([(-1 : Int), (64 : Int)]).getD dn22 0), (⟨#[119]⟩ : ByteArray)⟩ : WaitD)]) (St.rdN HS2.out WaitD.cells_len 0 rfl) (cells_one_W _) (by unfold maxLen; simp only [List.length_cons, List.length_nil]; omega) (by simp only [List.length_cons, List.length_nil]; omega) ?_; clear HF HS HS2 a; intro ao25 cp26 w36 a HF HS2; replace HS2 := Bx.mk HS2
         replace HS2 : Bx (St w0 (rowA WaitD.cells 2 137 (.slice (some ⟨b24, 0, none⟩) 1 1) ([(⟨(([(-1 : Int), (64 : Int)]).getD dn22 0), (⟨#[119]⟩ : ByteArray)⟩ : WaitD)]) :: rowA encI 1 3 (.slice (some ⟨b23, 0, none⟩) 2 2) ([(-1 : Int), (64 : Int)]) :: rdA rb ab n cb (B + 1 + 1 + 21 * k + 1 + 21 * k2 + 1 + 1) :: boxA b6 3 94 (.agg #[.slice (some ⟨g5, 0, none⟩) 64 qc4, .slice aw ws.length cw, .bool false]) :: rowA encS 1 9 (.slice (some ⟨g5, 0, none⟩) 64 qc4) cs :: rowA WaitD.cells 2 137 (.slice ao25 (ws.length + ([(⟨(([(-1 : Int), (64 : Int)]).getD dn22 0), (⟨#[119]⟩ : ByteArray)⟩ : WaitD)]).length) cp26) (ws ++ ([(⟨(([(-1 : Int), (64 : Int)]).getD dn22 0), (⟨#[119]⟩ : ByteArray)⟩ : WaitD)])) :: boxA b1 3 94 (.agg #[.slice none 0 0, .slice none 0 0, .bool false]) :: F) _) := ⟨HS2.out⟩
         have HS : Bx (St w0 (boxA b6 3 94 (.agg #[.slice (some ⟨g5, 0, none⟩) 64 qc4, .slice aw ws.length cw, .bool false]) :: rowA encS 1 9 (.slice (some ⟨g5, 0, none⟩) 64 qc4) cs :: boxA b1 3 94 (.agg #[.slice none 0 0, .slice none 0 0, .bool false]) :: F) _) := ⟨((((HS2.out.erase 5).erase 2).erase 1).erase 0)⟩
         refine ⟨fun _ => HS.out, ?_⟩
         refine wm_t 10 rfl (by kernel_rfl) (by kernel_rfl) (by kernel_rfl) (fun _ _ _ h => h) (by decide) rfl HF rfl rfl (fun _ _ => (yl_fieldAddr (j := 1) rfl (HF.ev rfl) (by kernel_rfl))) (fun _ => HS.out) ?_;clear HF a;intro a HF
         refine wm_one 11 (by kernel_rfl) ?_
         refine wo_storeF rfl rfl rfl rfl (HF.ev rfl) (HF.ev rfl) (by kernel_rfl) HS2.out 3 rfl rfl rfl ?_
         clear HS2; intro w37 HS2; replace HS2 : Bx (St w0 (rowA WaitD.cells 2 137 (.slice (some ⟨b24, 0, none⟩) 1 1) ([(⟨(([(-1 : Int), (64 : Int)]).getD dn22 0), (⟨#[119]⟩ : ByteArray)⟩ : WaitD)]) :: rowA encI 1 3 (.slice (some ⟨b23, 0, none⟩) 2 2) ([(-1 : Int), (64 : Int)]) :: rdA rb ab n cb (B + 1 + 1 + 21 * k + 1 + 21 * k2 + 1 + 1) :: boxA b6 3 94 (.agg #[.slice (some ⟨g5, 0, none⟩) 64 qc4, .slice ao25 (ws.length + ([(⟨(([(-1 : Int), (64 : Int)]).getD dn22 0), (⟨#[119]⟩ : ByteArray)⟩ : WaitD)]).length) cp26, .bool false]) :: rowA encS 1 9 (.slice (some ⟨g5, 0, none⟩) 64 qc4) cs :: rowA WaitD.cells 2 137 (.slice ao25 (ws.length + ([(⟨(([(-1 : Int), (64 : Int)]).getD dn22 0), (⟨#[119]⟩ : ByteArray)⟩ : WaitD)]).length) cp26) (ws ++ ([(⟨(([(-1 : Int), (64 : Int)]).getD dn22 0), (⟨#[119]⟩ : ByteArray)⟩ : WaitD)])) :: boxA b1 3 94 (.agg #[.slice none 0 0, .slice none 0 0, .bool false]) :: F) _) := ⟨HS2⟩; refine ⟨(fun h => absurd (show true = false from h) (by decide)), ?_⟩
         refine wm_done (by kernel_rfl) ?_
         clear HS; have HS := HS2; clear HS2
         replace HS:=Bx.mk (((((((HS.out.pick 6 rfl).pick 6 rfl).pick 6 rfl).pick 6 rfl).pick 5 rfl).pick 6 rfl).pick 6 rfl)
         exact on_mk ⟨_, _, _, _, _, HF.less _ ⟨rfl, rfl, rfl, rfl, rfl, rfl, rfl, rfl, rfl, rfl, rfl, rfl, rfl, rfl, trivial⟩, HS.out⟩
       clear HF HS a; rintro a w38 ⟨b19, dn18, b17, ao20, cp21, HF, HS⟩; replace HS := Bx.mk HS
       refine ex_block ?_
       refine ex_then ?_
       refine wp_sr ?_
       refine wl_y rfl HF rfl rfl (yl_loadR (cs := [.slice (some ⟨g5, 0, none⟩) 64 qc4, .slice ao20 (ws.length + ([(⟨(([(-1 : Int), (64 : Int)]).getD dn18 0), (⟨#[119]⟩ : ByteArray)⟩ : WaitD)]).length) cp21, .bool false]) rfl (HF.ev rfl) ((HS.out.box 3 rfl).sub 0 3) (by kernel_rfl)) ?_;clear HF a;intro a HF
       refine wl_storeBox rfl HF rfl rfl (HF.ev rfl) (HF.ev rfl) HS.out 6 rfl (cells_lit [.slice (some ⟨g5, 0, none⟩) 64 qc4, .slice ao20 (ws.length + ([(⟨(([(-1 : Int), (64 : Int)]).getD dn18 0), (⟨#[119]⟩ : ByteArray)⟩ : WaitD)]).length) cp21, .bool false] rfl rfl) (by kernel_rfl) ?_; clear HS; intro w39 HS; replace HS := Bx.mk HS
       have HS : Bx (St w0 (rowA WaitD.cells 2 137 (.slice (some ⟨b19, 0, none⟩) 1 1) ([(⟨(([(-1 : Int), (64 : Int)]).getD dn18 0), (⟨#[119]⟩ : ByteArray)⟩ : WaitD)]) :: rdA rb ab n cb (B + 1 + 1 + 21 * k + 1 + 21 * k2 + 1 + 1) :: rowA encI 1 3 (.slice (some ⟨b17, 0, none⟩) 2 2) ([(-1 : Int), (64 : Int)]) :: boxA b6 3 94 (.agg #[.slice (some ⟨g5, 0, none⟩) 64 qc4, .slice ao20 (ws.length + ([(⟨(([(-1 : Int), (64 : Int)]).getD dn18 0), (⟨#[119]⟩ : ByteArray)⟩ : WaitD)]).length) cp21, .bool false]) :: rowA encS 1 9 (.slice (some ⟨g5, 0, none⟩) 64 qc4) cs :: rowA WaitD.cells 2 137 (.slice ao20 (ws.length + ([(⟨(([(-1 : Int), (64 : Int)]).getD dn18 0), (⟨#[119]⟩ : ByteArray)⟩ : WaitD)]).length) cp21) (ws ++ ([(⟨(([(-1 : Int), (64 : Int)]).getD dn18 0), (⟨#[119]⟩ : ByteArray)⟩ : WaitD)])) :: boxA b1 3 94 (.agg #[.slice (some ⟨g5, 0, none⟩) 64 qc4, .slice ao20 (ws.length + ([(⟨(([(-1 : Int), (64 : Int)]).getD dn18 0), (⟨#[119]⟩ : ByteArray)⟩ : WaitD)]).length) cp21, .bool false]) :: F) _) := HS
       refine wl_ne ?_
       refine wp_ret ?_
       refine bp_ret1 HF Tryz.results97 (HF.resBox rfl (HS.out.box 6 rfl) (by kernel_rfl)) ?_
       replace HS:=Bx.mk (((HS.out.pick 5 rfl).pick 5 rfl).pick 3 rfl)
       have hz : ws.length + ([(⟨(([(-1 : Int), (64 : Int)]).getD dn18 0), (⟨#[119]⟩ : ByteArray)⟩ : WaitD)]).length = (ws ++ ([(⟨(([(-1 : Int), (64 : Int)]).getD dn18 0), (⟨#[119]⟩ : ByteArray)⟩ : WaitD)])).length := (List.length_append ..).symm
       rw [hz] at HS ⊢
       have hz1 : (ws ++ ([(⟨(([(-1 : Int), (64 : Int)]).getD dn18 0), (⟨#[119]⟩ : ByteArray)⟩ : WaitD)])).length = ws.length + 1 := by rw [List.length_append]; rfl
       have hwz : ∀ x, x ∈ ws ++ ([(⟨(([(-1 : Int), (64 : Int)]).getD dn18 0), (⟨#[119]⟩ : ByteArray)⟩ : WaitD)]) → x.fText.size ≤ 1000 := (fun x hx => (List.mem_append.1 hx).elim (hw x) fun e => by rw [List.mem_singleton.1 e]; show (⟨#[119]⟩ : ByteArray).size ≤ 1000; first | omega | decide)
       have HT := ((St.join (r := [_, _]) (s := _)).1 (((HS.out.rdLe (B' := B + 500) (by omega)).pick 1 rfl).pick 2 rfl).swap).hold (P := fun w => HD.reads w (⟨some ⟨g5, 0 + 0 * 1, none⟩, qc4 - 0, ao20, cp21, (⟨cs.drop 0, ws ++ ([(⟨(([(-1 : Int), (64 : Int)]).getD dn18 0), (⟨#[119]⟩ : ByteArray)⟩ : WaitD)]), false⟩ : DiskD)⟩ : HD)) (fun w f h => cut_reads (k := 0) hcl (by omega) h)
       refine ⟨(⟨some ⟨g5, 0 + 0 * 1, none⟩, qc4 - 0, ao20, cp21, (⟨cs.drop 0, ws ++ ([(⟨(([(-1 : Int), (64 : Int)]).getD dn18 0), (⟨#[119]⟩ : ByteArray)⟩ : WaitD)]), false⟩ : DiskD)⟩ : HD), fits_of (by rw [List.length_drop]; omega) (by omega) (fun x hx => hc x (List.mem_of_mem_drop hx)) hwz, ?_, ((((HT.swap.erase 5).erase 4).erase 3).erase 2)⟩
       show _ = Ending.returned (.agg #[.slice (some ⟨g5, 0 + 0 * 1, none⟩) (cs.drop 0).length (qc4 - 0), .slice ao20 (ws ++ ([(⟨(([(-1 : Int), (64 : Int)]).getD dn18 0), (⟨#[119]⟩ : ByteArray)⟩ : WaitD)])).length cp21, .bool false])
       rw [List.length_drop, hcl]; all_goals rfl
      ·clear HF; have HF := HF1; clear HF1
       have dcc6 := ne_of_beq_false cc6
       refine wc_false HF rfl ?_
       refine wp_sr ?_
       refine wl_y rfl HF rfl rfl (yl_eqlI rfl (HF.ev rfl) (HF.ev rfl)) ?_;clear HF a;intro a HF
       refine wl_as HF rfl rfl rfl rfl rfl ?_;clear HF a;intro a HF
       refine wl_ne ?_
       refine HF.cases 64 rfl (fun cc7 HF1 => ?_) (fun cc7 HF1 => ?_)
       ·clear HF; have HF := HF1; clear HF1
        have dcc7 := eq_of_beq cc7
        refine wc_true HF rfl ?_
        refine wr_marked (W := w0) (s := boxA b6 3 94 (.agg #[.slice (some ⟨g5, 0, none⟩) 64 qc4, .slice aw ws.length cw, .bool false]) :: rowA encS 1 9 (.slice (some ⟨g5, 0, none⟩) 64 qc4) cs :: rowA WaitD.cells 2 137 (.slice aw ws.length cw) ws :: boxA b1 3 94 (.agg #[.slice none 0 0, .slice none 0 0, .bool false]) :: F) 7 (by kernel_rfl) ?_
        have HS2 := Bx.mk HS.out.drew; replace HS := Bx.mk (show St w0 (boxA b6 3 94 (.agg #[.slice (some ⟨g5, 0, none⟩) 64 qc4, .slice aw ws.length cw, .bool false]) :: rowA encS 1 9 (.slice (some ⟨g5, 0, none⟩) 64 qc4) cs :: rowA WaitD.cells 2 137 (.slice aw ws.length cw) ws :: boxA b1 3 94 (.agg #[.slice none 0 0, .slice none 0 0, .bool false]) :: F) _ from (HS.out.drew.erase 0)); generalize World.drew _ = w40 at HS HS2 ⊢
        refine wm_t 0 rfl (by kernel_rfl) (by kernel_rfl) (by kernel_rfl) (fun _ _ _ h => h) (by decide) rfl HF rfl rfl (fun _ _ => (yl_fieldAddr (j := 0) rfl (HF.ev rfl) (by kernel_rfl))) (fun _ => HS.out) ?_;clear HF a;intro a HF
        refine wm_y 1 rfl (by kernel_rfl) (by kernel_rfl) (by kernel_rfl) (fun _ _ _ h => h) (by decide) (by kernel_rfl) (by kernel_rfl) rfl HF rfl rfl (fun _ HS => (yl_load (v := .slice (some ⟨g5, 0, none⟩) 64 qc4) rfl (HF.ev rfl) (((HS.box 0 rfl).cell 0).trans rfl) (by kernel_rfl))) HS.out ?_;clear HF a;intro a HF
        refine wm_t 2 rfl (by kernel_rfl) (by kernel_rfl) (by kernel_rfl) (fun _ _ _ h => h) (by decide) rfl HF rfl rfl (fun _ _ => (yl_move rfl (HF.ev rfl))) (fun _ => HS.out) ?_;clear HF a;intro a HF
        refine wm_one 3 (by kernel_rfl) ?_
        replace HS2:=Bx.mk (HS2.out.pick 0 rfl)
        refine wo_call rfl rfl HF rfl (enter_of Tryz.func94 (by kernel_rfl) rfl) (args := #[.pointer (some ⟨rb, 0, none⟩), .int .i64 2]) rfl (pickN w0 _ rb ab n cb bs hn hR (B + 1 + 1 + 21 * k + 1 + 21 * k2 + 1) (by omega) 2 (by omega) _ HS2.out) rfl rfl ?_
        rintro _ w41 ⟨dn27, rfl, hu27, hs1⟩
        refine ⟨_, rfl, ?_⟩; replace HS2 := Bx.mk hs1; clear hs1 HF; clear a; intro a HF
        replace HS2 : Bx (St w0 (rdA rb ab n cb (B + 1 + 1 + 21 * k + 1 + 21 * k2 + 1 + 1) :: boxA b6 3 94 (.agg #[.slice (some ⟨g5, 0, none⟩) 64 qc4, .slice aw ws.length cw, .bool false]) :: rowA encS 1 9 (.slice (some ⟨g5, 0, none⟩) 64 qc4) cs :: rowA WaitD.cells 2 137 (.slice aw ws.length cw) ws :: boxA b1 3 94 (.agg #[.slice none 0 0, .slice none 0 0, .bool false]) :: F) _) := ⟨HS2.out⟩
        clear HS; have HS : Bx (St w0 (boxA b6 3 94 (.agg #[.slice (some ⟨g5, 0, none⟩) 64 qc4, .slice aw ws.length cw, .bool false]) :: rowA encS 1 9 (.slice (some ⟨g5, 0, none⟩) 64 qc4) cs :: rowA WaitD.cells 2 137 (.slice aw ws.length cw) ws :: boxA b1 3 94 (.agg #[.slice none 0 0, .slice none 0 0, .bool false]) :: F) _) := ⟨(HS2.out.erase 0)⟩
        refine ⟨fun _ => HS.out, ?_⟩
        refine wm_y 4 rfl (by kernel_rfl) (by kernel_rfl) (by kernel_rfl) (fun _ _ _ h => h) (by decide) (by kernel_rfl) (by kernel_rfl) rfl HF rfl rfl (fun _ HS => (yl_addI rfl (HF.ev rfl) (HF.ev rfl) (i64w (by omega)))) HS.out ?_;clear HF a;intro a HF
        refine wm_one 5 (by kernel_rfl) ?_
        refine wo_callB rfl rfl HF rfl (enter_of Tryz.func139 (by kernel_rfl) rfl) (args := #[.string (⟨#[121]⟩ : ByteArray), .int .i64 ((200 : Int) + (dn27 : Int))]) rfl (v := .string (manyB (⟨#[121]⟩ : ByteArray) (200 + dn27))) ((l6Many_any (⟨#[121]⟩ : ByteArray) (200 + dn27) _ (by omega) (by show _ * 1 ≤ _; omega) (by decide))) rfl rfl ?_; intro w42 hb; replace HS := Bx.mk (HS.out.later hb); replace HS2 := Bx.mk (HS2.out.later hb); clear hb HF; clear a; intro a HF
        refine ⟨fun _ => HS.out, ?_⟩
        refine wm_y 6 rfl (by kernel_rfl) (by kernel_rfl) (by kernel_rfl) (fun _ _ _ h => h) (by decide) (by kernel_rfl) (by kernel_rfl) rfl HF rfl rfl (fun _ HS => (yl_indexAddr (e := 9) (i := 3) (size := 1) rfl (HF.ev rfl) (HF.ev rfl) (by kernel_rfl) rfl (by omega))) HS.out ?_;clear HF a;intro a HF
        refine wm_one 7 (by kernel_rfl) ?_
        refine wo_storeE encS_len rfl rfl rfl rfl (HF.ev rfl) (HF.ev rfl) (by kernel_rfl) HS2.out 2 rfl (by omega) (z := (manyB (⟨#[121]⟩ : ByteArray) (200 + dn27))) rfl rfl ?_
        clear HS2; intro w43 HS2; replace HS2 : Bx (St w0 (rdA rb ab n cb (B + 1 + 1 + 21 * k + 1 + 21 * k2 + 1 + 1) :: boxA b6 3 94 (.agg #[.slice (some ⟨g5, 0, none⟩) 64 qc4, .slice aw ws.length cw, .bool false]) :: rowA encS 1 9 (.slice (some ⟨g5, 0, none⟩) 64 qc4) (cs.set 3 (manyB (⟨#[121]⟩ : ByteArray) (200 + dn27))) :: rowA WaitD.cells 2 137 (.slice aw ws.length cw) ws :: boxA b1 3 94 (.agg #[.slice none 0 0, .slice none 0 0, .bool false]) :: F) _) := ⟨HS2⟩; refine ⟨(fun h => absurd (show true = false from h) (by decide)), ?_⟩
        refine wm_done (by kernel_rfl) ?_
        clear HS; have HS := HS2; clear HS2
        refine ex_block ?_
        refine ex_then ?_
        refine wp_sr ?_
        refine wl_y rfl HF rfl rfl (yl_loadR (cs := [.slice (some ⟨g5, 0, none⟩) 64 qc4, .slice aw ws.length cw, .bool false]) rfl (HF.ev rfl) ((HS.out.box 1 rfl).sub 0 3) (by kernel_rfl)) ?_;clear HF a;intro a HF
        refine wl_storeBox rfl HF rfl rfl (HF.ev rfl) (HF.ev rfl) HS.out 4 rfl (cells_lit [.slice (some ⟨g5, 0, none⟩) 64 qc4, .slice aw ws.length cw, .bool false] rfl rfl) (by kernel_rfl) ?_; clear HS; intro w44 HS; replace HS := Bx.mk HS
        have HS : Bx (St w0 (rdA rb ab n cb (B + 1 + 1 + 21 * k + 1 + 21 * k2 + 1 + 1) :: boxA b6 3 94 (.agg #[.slice (some ⟨g5, 0, none⟩) 64 qc4, .slice aw ws.length cw, .bool false]) :: rowA encS 1 9 (.slice (some ⟨g5, 0, none⟩) 64 qc4) (cs.set 3 (manyB (⟨#[121]⟩ : ByteArray) (200 + dn27))) :: rowA WaitD.cells 2 137 (.slice aw ws.length cw) ws :: boxA b1 3 94 (.agg #[.slice (some ⟨g5, 0, none⟩) 64 qc4, .slice aw ws.length cw, .bool false]) :: F) _) := HS
        refine wl_ne ?_
        refine wp_ret ?_
        refine bp_ret1 HF Tryz.results97 (HF.resBox rfl (HS.out.box 4 rfl) (by kernel_rfl)) ?_
        replace HS:=Bx.mk (((HS.out.pick 3 rfl).pick 3 rfl).pick 2 rfl)
        replace hc : ∀ x, x ∈ cs.set 3 (manyB (⟨#[121]⟩ : ByteArray) (200 + dn27)) → x.size ≤ 1000 := (fun x hx => (List.mem_or_eq_of_mem_set hx).elim (hc x) fun e => by rw [e, manyB_size]; show _ * 1 ≤ _; omega)
        replace hcl : (cs.set 3 (manyB (⟨#[121]⟩ : ByteArray) (200 + dn27))).length = 64 := (List.length_set ..).trans hcl
        have hwz : ∀ x, x ∈ ws → x.fText.size ≤ 1000 := hw
        have HT := ((St.join (r := [_, _]) (s := _)).1 (((HS.out.rdLe (B' := B + 500) (by omega)).pick 1 rfl).pick 2 rfl).swap).hold (P := fun w => HD.reads w (⟨some ⟨g5, 0 + 0 * 1, none⟩, qc4 - 0, aw, cw, (⟨(cs.set 3 (manyB (⟨#[121]⟩ : ByteArray) (200 + dn27))).drop 0, ws, false⟩ : DiskD)⟩ : HD)) (fun w f h => cut_reads (k := 0) hcl (by omega) h)
        refine ⟨(⟨some ⟨g5, 0 + 0 * 1, none⟩, qc4 - 0, aw, cw, (⟨(cs.set 3 (manyB (⟨#[121]⟩ : ByteArray) (200 + dn27))).drop 0, ws, false⟩ : DiskD)⟩ : HD), fits_of (by rw [List.length_drop]; omega) (by omega) (fun x hx => hc x (List.mem_of_mem_drop hx)) hwz, ?_, ((HT.swap.erase 3).erase 2)⟩
        show _ = Ending.returned (.agg #[.slice (some ⟨g5, 0 + 0 * 1, none⟩) ((cs.set 3 (manyB (⟨#[121]⟩ : ByteArray) (200 + dn27))).drop 0).length (qc4 - 0), .slice aw (ws).length cw, .bool false])
        rw [List.length_drop, hcl]; all_goals rfl
       ·clear HF; have HF := HF1; clear HF1
        have dcc7 := ne_of_beq_false cc7
        refine wc_false HF rfl ?_
        refine wp_sr ?_
        refine wl_y rfl HF rfl rfl (yl_eqlI rfl (HF.ev rfl) (HF.ev rfl)) ?_;clear HF a;intro a HF
        refine wl_as HF rfl rfl rfl rfl rfl ?_;clear HF a;intro a HF
        refine wl_ne ?_
        refine HF.cases 73 rfl (fun cc8 HF1 => ?_) (fun cc8 HF1 => ?_)
        ·clear HF; have HF := HF1; clear HF1
         have dcc8 := eq_of_beq cc8
         refine wc_true HF rfl ?_
         refine wp_block ?_
         replace HS:=Bx.mk (HS.out.pick 0 rfl)
         replace HS : Bx (St w0 (rdA rb ab n cb (B + 1 + 1 + 21 * k + 1 + 21 * k2 + 1 + 0) :: boxA b6 3 94 (.agg #[.slice (some ⟨g5, 0, none⟩) 64 qc4, .slice aw ws.length cw, .bool false]) :: rowA encS 1 9 (.slice (some ⟨g5, 0, none⟩) 64 qc4) cs :: rowA WaitD.cells 2 137 (.slice aw ws.length cw) ws :: boxA b1 3 94 (.agg #[.slice none 0 0, .slice none 0 0, .bool false]) :: F) _) := ⟨HS.out.rdLe (by omega)⟩
         refine wc_loop (ι := Nat) (fun j a w => ∃ (aw : Option Addr) (cw : Nat) (ws : List WaitD), (ws.length ≤ 122 ∧ j ≤ ws.length ∧ ∀ x, x ∈ ws → x.fText.size ≤ 1000) ∧ Fr 93 a [(0, .pointer (some ⟨rb, 0, none⟩)), (2, .pointer (some ⟨b1, 0, none⟩)), (3, .pointer (some ⟨b6, 0, none⟩))] ∧ St w0 (rdA rb ab n cb (B + 1 + 1 + 21 * k + 1 + 21 * k2 + 1 + j) :: boxA b6 3 94 (.agg #[.slice (some ⟨g5, 0, none⟩) 64 qc4, .slice aw ws.length cw, .bool false]) :: rowA encS 1 9 (.slice (some ⟨g5, 0, none⟩) 64 qc4) cs :: rowA WaitD.cells 2 137 (.slice aw ws.length cw) ws :: boxA b1 3 94 (.agg #[.slice none 0 0, .slice none 0 0, .bool false]) :: F) w) (fun j => 122 - j) 0 ⟨aw, cw, ws, ⟨by omega, Nat.zero_le _, hw⟩, HF.less _ ⟨rfl, rfl, rfl, trivial⟩, HS.out⟩ ?_
         clear HF HS; clear a
         rintro j a w45 ⟨aw, cw, ws, ⟨hwl, hj, hw⟩, HF, HS⟩
         replace HS := Bx.mk HS
         refine wp_seq ?_
         refine wp_seq ?_
         refine wr_heldS (s := boxA b6 3 94 (.agg #[.slice (some ⟨g5, 0, none⟩) 64 qc4, .slice aw ws.length cw, .bool false]) :: rowA encS 1 9 (.slice (some ⟨g5, 0, none⟩) 64 qc4) cs :: rowA WaitD.cells 2 137 (.slice aw ws.length cw) ws :: boxA b1 3 94 (.agg #[.slice none 0 0, .slice none 0 0, .bool false]) :: F) (by kernel_rfl) (St.drew ((HS.out.erase 0))) ?_
         have HS2 := Bx.mk HS.out.drew; replace HS := Bx.mk (show St w0 (boxA b6 3 94 (.agg #[.slice (some ⟨g5, 0, none⟩) 64 qc4, .slice aw ws.length cw, .bool false]) :: rowA encS 1 9 (.slice (some ⟨g5, 0, none⟩) 64 qc4) cs :: rowA WaitD.cells 2 137 (.slice aw ws.length cw) ws :: boxA b1 3 94 (.agg #[.slice none 0 0, .slice none 0 0, .bool false]) :: F) _ from (HS.out.drew.erase 0))
         generalize World.drew _ = w46 at HS HS2 ⊢
         refine wh_y 0 rfl (by kernel_rfl) (by kernel_rfl) (by kernel_rfl) (fun _ _ _ h => h) rfl HF rfl rfl (fun _ HS => (yl_fieldAddr (j := 1) rfl (HF.ev rfl) (by kernel_rfl))) HS.out ?_;clear HF a;intro a HF
         refine wh_y 1 rfl (by kernel_rfl) (by kernel_rfl) (by kernel_rfl) (fun _ _ _ h => h) rfl HF rfl rfl (fun _ HS => (yl_load (v := .slice aw ws.length cw) rfl (HF.ev rfl) (((HS.box 0 rfl).cell 1).trans rfl) (by kernel_rfl))) HS.out ?_;clear HF a;intro a HF
         refine wh_y 2 rfl (by kernel_rfl) (by kernel_rfl) (by kernel_rfl) (fun _ _ _ h => h) rfl HF rfl rfl (fun _ HS => (yl_lenL (e := 137) (size := 2) rfl (HF.ev rfl) (by kernel_rfl))) HS.out ?_;clear HF a;intro a HF
         refine wh_y 3 rfl (by kernel_rfl) (by kernel_rfl) (by kernel_rfl) (fun _ _ _ h => h) rfl HF rfl rfl (fun _ HS => (yl_move rfl (HF.ev rfl))) HS.out ?_;clear HF a;intro a HF
         refine wh_one 4 (by kernel_rfl) ?_
         replace HS2:=Bx.mk (HS2.out.pick 0 rfl)
         refine wo_call rfl rfl HF rfl (enter_of Tryz.func94 (by kernel_rfl) rfl) (args := #[.pointer (some ⟨rb, 0, none⟩), .int .i64 2]) rfl (pickN w0 _ rb ab n cb bs hn hR (B + 1 + 1 + 21 * k + 1 + 21 * k2 + 1 + j) (by omega) 2 (by omega) _ HS2.out) rfl rfl ?_
         rintro _ w48 ⟨dn28, rfl, hu28, hs1⟩
         refine ⟨_, rfl, ?_⟩; replace HS2 := Bx.mk hs1; clear hs1 HF; clear a; intro a HF
         replace HS2 : Bx (St w0 (rdA rb ab n cb (B + 1 + 1 + 21 * k + 1 + 21 * k2 + 1 + j + 1) :: boxA b6 3 94 (.agg #[.slice (some ⟨g5, 0, none⟩) 64 qc4, .slice aw ws.length cw, .bool false]) :: rowA encS 1 9 (.slice (some ⟨g5, 0, none⟩) 64 qc4) cs :: rowA WaitD.cells 2 137 (.slice aw ws.length cw) ws :: boxA b1 3 94 (.agg #[.slice none 0 0, .slice none 0 0, .bool false]) :: F) _) := ⟨HS2.out⟩
         clear HS; have HS : Bx (St w0 (boxA b6 3 94 (.agg #[.slice (some ⟨g5, 0, none⟩) 64 qc4, .slice aw ws.length cw, .bool false]) :: rowA encS 1 9 (.slice (some ⟨g5, 0, none⟩) 64 qc4) cs :: rowA WaitD.cells 2 137 (.slice aw ws.length cw) ws :: boxA b1 3 94 (.agg #[.slice none 0 0, .slice none 0 0, .bool false]) :: F) _) := ⟨(HS2.out.erase 0)⟩; refine ⟨HS.out, ?_⟩
         refine wh_y 5 rfl (by kernel_rfl) (by kernel_rfl) (by kernel_rfl) (fun _ _ _ h => h) rfl HF rfl rfl (fun _ HS => (yl_addI rfl (HF.ev rfl) (HF.ev rfl) (i64w (by omega)))) HS.out ?_;clear HF a;intro a HF
         refine wh_y 6 rfl (by kernel_rfl) (by kernel_rfl) (by kernel_rfl) (fun _ _ _ h => h) rfl HF rfl rfl (fun _ HS => (yl_lssI rfl (HF.ev rfl) (HF.ev rfl))) HS.out ?_;clear HF a;intro a HF
         refine wh_done (by kernel_rfl) ?_
         replace HS := HS2; clear HS2
         refine ex_then ?_
         refine HF.cases 81 rfl (fun cc9 HF1 => ?_) (fun cc9 HF1 => ?_)
         ·clear HF; have HF := HF1; clear HF1
          have dcc9 := of_decide_eq_true cc9
          refine wc_true HF rfl ?_
          refine wp_skip ?_
          refine ex_then ?_
          refine wp_block ?_
          refine wp_region_lit ?_
          refine wl_y rfl HF rfl rfl (yl_fieldAddr (j := 1) rfl (HF.ev rfl) (by kernel_rfl)) ?_;clear HF a;intro a HF
          refine wl_y rfl HF rfl rfl (yl_load (v := .slice aw ws.length cw) rfl (HF.ev rfl) (((HS.out.box 1 rfl).cell 1).trans rfl) (by kernel_rfl)) ?_;clear HF a;intro a HF
          refine wl_y rfl HF rfl rfl (yl_fieldAddr (j := 1) rfl (HF.ev rfl) (by kernel_rfl)) ?_;clear HF a;intro a HF
          refine wl_y rfl HF rfl rfl (yl_load (v := .slice aw ws.length cw) rfl (HF.ev rfl) (((HS.out.box 1 rfl).cell 1).trans rfl) (by kernel_rfl)) ?_;clear HF a;intro a HF
          refine wl_y rfl HF rfl rfl (yl_lenL (e := 137) (size := 2) rfl (HF.ev rfl) (by kernel_rfl)) ?_;clear HF a;intro a HF
          refine wl_y rfl HF rfl rfl (yl_remI rfl (HF.ev rfl) (HF.ev rfl) (by omega) (rem_pos (by omega) (by omega))) ?_;clear HF a;intro a HF
          refine wl_y rfl HF rfl rfl (yl_build HF rfl (ps := [(0, .int .i64 ((ws.length : Int) % 9)), (1, .string (⟨#[122]⟩ : ByteArray))]) rfl (cs := #[.int .i64 ((ws.length : Int) % 9), .string (⟨#[122]⟩ : ByteArray)]) (by kernel_rfl)) ?_;clear HF a;intro a HF
          refine wl_buildS (enc := WaitD.cells) (e := 137) (size := 2) rfl HF rfl rfl rfl (ps := [(0, .agg #[.int .i64 ((ws.length : Int) % 9), .string (⟨#[122]⟩ : ByteArray)])]) rfl (cells := [.int .i64 ((ws.length : Int) % 9), .string (⟨#[122]⟩ : ByteArray)]) (by kernel_rfl) [(⟨(ws.length : Int) % 9, (⟨#[122]⟩ : ByteArray)⟩ : WaitD)] rfl rfl (by unfold maxLen; omega) rfl HS.out ?_; clear HF HS a; intro b29 a w49 HF HS; replace HS := Bx.mk HS
          refine wl_appL rfl HF rfl rfl rfl (HF.ev rfl) (HF.ev rfl) elemW WaitD.cells_len HS.out 4 (xs := ws) rfl (ys := [(⟨(ws.length : Int) % 9, (⟨#[122]⟩ : ByteArray)⟩ : WaitD)]) (St.rdN HS.out WaitD.cells_len 0 rfl) (cells_one_W _) (by unfold maxLen; simp only [List.length_cons, List.length_nil]; omega) (by simp only [List.length_cons, List.length_nil]; omega) ?_; clear HF HS a; intro ao30 cp31 w50 a HF HS; replace HS := Bx.mk HS
          replace HS : Bx (St w0 (rowA WaitD.cells 2 137 (.slice (some ⟨b29, 0, none⟩) 1 1) ([(⟨(ws.length : Int) % 9, (⟨#[122]⟩ : ByteArray)⟩ : WaitD)]) :: rdA rb ab n cb (B + 1 + 1 + 21 * k + 1 + 21 * k2 + 1 + j + 1) :: boxA b6 3 94 (.agg #[.slice (some ⟨g5, 0, none⟩) 64 qc4, .slice aw ws.length cw, .bool false]) :: rowA encS 1 9 (.slice (some ⟨g5, 0, none⟩) 64 qc4) cs :: rowA WaitD.cells 2 137 (.slice ao30 (ws.length + ([(⟨(ws.length : Int) % 9, (⟨#[122]⟩ : ByteArray)⟩ : WaitD)]).length) cp31) (ws ++ ([(⟨(ws.length : Int) % 9, (⟨#[122]⟩ : ByteArray)⟩ : WaitD)])) :: boxA b1 3 94 (.agg #[.slice none 0 0, .slice none 0 0, .bool false]) :: F) _) := ⟨HS.out⟩
          refine wl_y rfl HF rfl rfl (yl_fieldAddr (j := 1) rfl (HF.ev rfl) (by kernel_rfl)) ?_;clear HF a;intro a HF
          refine wl_storeF rfl rfl rfl (HF.ev rfl) (HF.ev rfl) (by kernel_rfl) HS.out 2 rfl rfl rfl ?_; clear HS; intro w51 HS; replace HS := Bx.mk HS
          have HS : Bx (St w0 (rowA WaitD.cells 2 137 (.slice (some ⟨b29, 0, none⟩) 1 1) ([(⟨(ws.length : Int) % 9, (⟨#[122]⟩ : ByteArray)⟩ : WaitD)]) :: rdA rb ab n cb (B + 1 + 1 + 21 * k + 1 + 21 * k2 + 1 + j + 1) :: boxA b6 3 94 (.agg #[.slice (some ⟨g5, 0, none⟩) 64 qc4, .slice ao30 (ws.length + ([(⟨(ws.length : Int) % 9, (⟨#[122]⟩ : ByteArray)⟩ : WaitD)]).length) cp31, .bool false]) :: rowA encS 1 9 (.slice (some ⟨g5, 0, none⟩) 64 qc4) cs :: rowA WaitD.cells 2 137 (.slice ao30 (ws.length + ([(⟨(ws.length : Int) % 9, (⟨#[122]⟩ : ByteArray)⟩ : WaitD)]).length) cp31) (ws ++ ([(⟨(ws.length : Int) % 9, (⟨#[122]⟩ : ByteArray)⟩ : WaitD)])) :: boxA b1 3 94 (.agg #[.slice none 0 0, .slice none 0 0, .bool false]) :: F) _) := HS
          refine wpList_nil ?_
          refine ex_block ?_
          refine ex_then ?_
          replace HS:=Bx.mk (HS.out.pick 1 rfl)
          replace HS : Bx (St w0 (rdA rb ab n cb (B + 1 + 1 + 21 * k + 1 + 21 * k2 + 1 + (j + 1)) :: rowA WaitD.cells 2 137 (.slice (some ⟨b29, 0, none⟩) 1 1) ([(⟨(ws.length : Int) % 9, (⟨#[122]⟩ : ByteArray)⟩ : WaitD)]) :: boxA b6 3 94 (.agg #[.slice (some ⟨g5, 0, none⟩) 64 qc4, .slice ao30 (ws.length + ([(⟨(ws.length : Int) % 9, (⟨#[122]⟩ : ByteArray)⟩ : WaitD)]).length) cp31, .bool false]) :: rowA encS 1 9 (.slice (some ⟨g5, 0, none⟩) 64 qc4) cs :: rowA WaitD.cells 2 137 (.slice ao30 (ws.length + ([(⟨(ws.length : Int) % 9, (⟨#[122]⟩ : ByteArray)⟩ : WaitD)]).length) cp31) (ws ++ ([(⟨(ws.length : Int) % 9, (⟨#[122]⟩ : ByteArray)⟩ : WaitD)])) :: boxA b1 3 94 (.agg #[.slice none 0 0, .slice none 0 0, .bool false]) :: F) _) := ⟨HS.out.rdLe (by omega)⟩
          have hz : ws.length + ([(⟨(ws.length : Int) % 9, (⟨#[122]⟩ : ByteArray)⟩ : WaitD)]).length = (ws ++ ([(⟨(ws.length : Int) % 9, (⟨#[122]⟩ : ByteArray)⟩ : WaitD)])).length := (List.length_append ..).symm
          rw [hz] at HS
          have hz1 : (ws ++ ([(⟨(ws.length : Int) % 9, (⟨#[122]⟩ : ByteArray)⟩ : WaitD)])).length = ws.length + 1 := by rw [List.length_append]; rfl
          replace HS:=Bx.mk (((((HS.out.pick 5 rfl).pick 5 rfl).pick 5 rfl).pick 5 rfl).pick 4 rfl)
          exact ⟨j + 1, ⟨_, _, ws ++ ([(⟨(ws.length : Int) % 9, (⟨#[122]⟩ : ByteArray)⟩ : WaitD)]), ⟨by omega, by omega, (fun x hx => (List.mem_append.1 hx).elim (hw x) fun e => by rw [List.mem_singleton.1 e]; show (⟨#[122]⟩ : ByteArray).size ≤ 1000; first | omega | decide)⟩, HF.less _ ⟨rfl, rfl, rfl, trivial⟩, (HS.out.erase 5)⟩, (by omega)⟩
         ·clear HF; have HF := HF1; clear HF1
          have dcc9 := of_decide_eq_false cc9
          refine wc_false HF rfl ?_
          refine wp_exit ?_
          refine ex_then_exit ?_
          refine ex_then_exit ?_
          refine ex_block_hit ?_
          refine ex_block ?_
          refine ex_then ?_
          refine wp_sr ?_
          refine wl_y rfl HF rfl rfl (yl_loadR (cs := [.slice (some ⟨g5, 0, none⟩) 64 qc4, .slice aw ws.length cw, .bool false]) rfl (HF.ev rfl) ((HS.out.box 1 rfl).sub 0 3) (by kernel_rfl)) ?_;clear HF a;intro a HF
          refine wl_storeBox rfl HF rfl rfl (HF.ev rfl) (HF.ev rfl) HS.out 4 rfl (cells_lit [.slice (some ⟨g5, 0, none⟩) 64 qc4, .slice aw ws.length cw, .bool false] rfl rfl) (by kernel_rfl) ?_; clear HS; intro w52 HS; replace HS := Bx.mk HS
          have HS : Bx (St w0 (rdA rb ab n cb (B + 1 + 1 + 21 * k + 1 + 21 * k2 + 1 + j + 1) :: boxA b6 3 94 (.agg #[.slice (some ⟨g5, 0, none⟩) 64 qc4, .slice aw ws.length cw, .bool false]) :: rowA encS 1 9 (.slice (some ⟨g5, 0, none⟩) 64 qc4) cs :: rowA WaitD.cells 2 137 (.slice aw ws.length cw) ws :: boxA b1 3 94 (.agg #[.slice (some ⟨g5, 0, none⟩) 64 qc4, .slice aw ws.length cw, .bool false]) :: F) _) := HS
          refine wl_ne ?_
          refine wp_ret ?_
          refine bp_ret1 HF Tryz.results97 (HF.resBox rfl (HS.out.box 4 rfl) (by kernel_rfl)) ?_
          replace HS:=Bx.mk (((HS.out.pick 3 rfl).pick 3 rfl).pick 2 rfl)
          have hwz : ∀ x, x ∈ ws → x.fText.size ≤ 1000 := hw
          have HT := ((St.join (r := [_, _]) (s := _)).1 (((HS.out.rdLe (B' := B + 500) (by omega)).pick 1 rfl).pick 2 rfl).swap).hold (P := fun w => HD.reads w (⟨some ⟨g5, 0 + 0 * 1, none⟩, qc4 - 0, aw, cw, (⟨cs.drop 0, ws, false⟩ : DiskD)⟩ : HD)) (fun w f h => cut_reads (k := 0) hcl (by omega) h)
          refine ⟨(⟨some ⟨g5, 0 + 0 * 1, none⟩, qc4 - 0, aw, cw, (⟨cs.drop 0, ws, false⟩ : DiskD)⟩ : HD), fits_of (by rw [List.length_drop]; omega) (by omega) (fun x hx => hc x (List.mem_of_mem_drop hx)) hwz, ?_, ((HT.swap.erase 3).erase 2)⟩
          show _ = Ending.returned (.agg #[.slice (some ⟨g5, 0 + 0 * 1, none⟩) (cs.drop 0).length (qc4 - 0), .slice aw (ws).length cw, .bool false])
          rw [List.length_drop, hcl]; all_goals rfl
        ·clear HF; have HF := HF1; clear HF1
         have dcc8 := ne_of_beq_false cc8
         refine wc_false HF rfl ?_
         refine wp_skip ?_
         refine ex_block ?_
         refine ex_then ?_
         refine wp_sr ?_
         refine wl_y rfl HF rfl rfl (yl_loadR (cs := [.slice (some ⟨g5, 0, none⟩) 64 qc4, .slice aw ws.length cw, .bool false]) rfl (HF.ev rfl) ((HS.out.box 1 rfl).sub 0 3) (by kernel_rfl)) ?_;clear HF a;intro a HF
         refine wl_storeBox rfl HF rfl rfl (HF.ev rfl) (HF.ev rfl) HS.out 4 rfl (cells_lit [.slice (some ⟨g5, 0, none⟩) 64 qc4, .slice aw ws.length cw, .bool false] rfl rfl) (by kernel_rfl) ?_; clear HS; intro w53 HS; replace HS := Bx.mk HS
         have HS : Bx (St w0 (rdA rb ab n cb (B + 1 + 1 + 21 * k + 1 + 21 * k2 + 1) :: boxA b6 3 94 (.agg #[.slice (some ⟨g5, 0, none⟩) 64 qc4, .slice aw ws.length cw, .bool false]) :: rowA encS 1 9 (.slice (some ⟨g5, 0, none⟩) 64 qc4) cs :: rowA WaitD.cells 2 137 (.slice aw ws.length cw) ws :: boxA b1 3 94 (.agg #[.slice (some ⟨g5, 0, none⟩) 64 qc4, .slice aw ws.length cw, .bool false]) :: F) _) := HS
         refine wl_ne ?_
         refine wp_ret ?_
         refine bp_ret1 HF Tryz.results97 (HF.resBox rfl (HS.out.box 4 rfl) (by kernel_rfl)) ?_
         replace HS:=Bx.mk (((HS.out.pick 3 rfl).pick 3 rfl).pick 2 rfl)
         have hwz : ∀ x, x ∈ ws → x.fText.size ≤ 1000 := hw
         have HT := ((St.join (r := [_, _]) (s := _)).1 (((HS.out.rdLe (B' := B + 500) (by omega)).pick 1 rfl).pick 2 rfl).swap).hold (P := fun w => HD.reads w (⟨some ⟨g5, 0 + 0 * 1, none⟩, qc4 - 0, aw, cw, (⟨cs.drop 0, ws, false⟩ : DiskD)⟩ : HD)) (fun w f h => cut_reads (k := 0) hcl (by omega) h)
         refine ⟨(⟨some ⟨g5, 0 + 0 * 1, none⟩, qc4 - 0, aw, cw, (⟨cs.drop 0, ws, false⟩ : DiskD)⟩ : HD), fits_of (by rw [List.length_drop]; omega) (by omega) (fun x hx => hc x (List.mem_of_mem_drop hx)) hwz, ?_, ((HT.swap.erase 3).erase 2)⟩
         show _ = Ending.returned (.agg #[.slice (some ⟨g5, 0 + 0 * 1, none⟩) (cs.drop 0).length (qc4 - 0), .slice aw (ws).length cw, .bool false])
         rw [List.length_drop, hcl]; all_goals rfl

end Go.Proofs.YtoaopmkbfifhaaaGreatDoor

/- Drawing sets of disks. -/
namespace Go.Proofs.YtoaopmkbfifhaaaGreatDoor
set_option linter.unusedVariables false
set_option linter.unusedSimpArgs false
set_option maxHeartbeats 1000000
set_option maxRecDepth 100000
open Go.RowKit

theorem St.imp0 {W w : World} {a b : Asr} {F : List Asr} (h : St W (a :: F) w) (hi : ∀ w f, a.P w f → b.P w f) : St W (b :: F) w := by
  obtain ⟨f, ⟨f1, f2, rfl, h1, h2⟩, hni, hb⟩ := h.sep
  exact ⟨h.bel, f1 ++ f2, ⟨f1, f2, rfl, hi w f1 h1, h2⟩, hni, hb⟩

end Go.Proofs.YtoaopmkbfifhaaaGreatDoor

/- Drawing pointers; the draws of the laws over sets of disks. -/
namespace Go.Proofs.YtoaopmkbfifhaaaGreatDoor
set_option linter.unusedVariables false
set_option linter.unusedSimpArgs false
set_option maxHeartbeats 1000000
set_option maxRecDepth 100000
open Go.RowKit

theorem l91Ptr_any (w0 w : World) (rb : Nat) (ab : Option Addr) (n cb : Nat) (bs : List UInt8) (hn : n ≤ 2000) (hR : Rd encB 1 w0 ab n bs) (B : Nat) (hB : B ≤ 800000) (F : List Asr) (hS : St w0 (rdA rb ab n cb B :: F) w) : Calls Tryz.prog 98 #[.pointer (some ⟨rb, 0, none⟩)] w fun e w' => ∃ p : PtrD, e = .returned (.agg #[.int .i64 p.fAt, .int .i64 p.fBirth, .int .i64 p.fSize, .int .i64 p.fSum, .int .i64 p.fLevel]) ∧ St w0 (rdA rb ab n cb (B + 100) :: F) w' := by
 have HS := Bx.mk hS; clear hS
 refine wc_enter Tryz.func98 rfl Tryz.ntmps98 [(0, .pointer (some ⟨rb, 0, none⟩))] ⟨rfl, trivial⟩ rfl ?_; intro a HF
 refine wp_sr ?_
 refine wl_alloc rfl HF rfl rfl rfl (Z := [.int .i64 0, .int .i64 0, .int .i64 0, .int .i64 0, .int .i64 0]) (by kernel_rfl) rfl HS.out ?_; clear HF HS a; intro a w1 b1 HF HS; replace HS := Bx.mk HS
 refine wl_ne ?_
 refine wp_seq ?_
 refine wp_sr ?_
 refine wl_mv HF rfl rfl rfl rfl rfl ?_;clear HF a;intro a HF
 replace HS:=Bx.mk (HS.out.pick 1 rfl)
 refine wl_call rfl HF rfl (enter_of Tryz.func94 (by kernel_rfl) rfl) (args := #[.pointer (some ⟨rb, 0, none⟩), .int .i64 5]) rfl (pickN w0 _ rb ab n cb bs hn hR B (by omega) 5 (by omega) _ HS.out) rfl rfl ?_
 rintro _ w2 ⟨dn2, rfl, hu2, hs1⟩
 refine ⟨_, rfl, ?_⟩; replace HS := Bx.mk hs1; clear hs1 HF; clear a; intro a HF
 replace HS : Bx (St w0 (rdA rb ab n cb (B + 1) :: boxA b1 5 38 (.agg #[.int .i64 0, .int .i64 0, .int .i64 0, .int .i64 0, .int .i64 0]) :: F) _) := ⟨HS.out⟩
 refine wl_y rfl HF rfl rfl (yl_eqlI rfl (HF.ev rfl) (HF.ev rfl)) ?_;clear HF a;intro a HF
 refine wl_ne ?_
 refine HF.cases 7 rfl (fun cc1 HF1 => ?_) (fun cc1 HF1 => ?_)
 ·clear HF; have HF := HF1; clear HF1
  have dcc1 := eq_of_beq cc1
  refine wc_true HF rfl ?_
  refine wp_sr ?_
  refine wl_y rfl HF rfl rfl (yl_build HF rfl (ps := []) rfl (cs := #[.int .i64 0, .int .i64 0, .int .i64 0, .int .i64 0, .int .i64 0]) (by kernel_rfl)) ?_;clear HF a;intro a HF
  refine wl_storeBox rfl HF rfl rfl (HF.ev rfl) (HF.ev rfl) HS.out 1 rfl (cells_lit [.int .i64 0, .int .i64 0, .int .i64 0, .int .i64 0, .int .i64 0] rfl rfl) (by kernel_rfl) ?_; clear HS; intro w3 HS; replace HS := Bx.mk HS
  have HS : Bx (St w0 (rdA rb ab n cb (B + 1) :: boxA b1 5 38 (.agg #[.int .i64 0, .int .i64 0, .int .i64 0, .int .i64 0, .int .i64 0]) :: F) _) := HS
  refine wl_ne ?_
  refine wp_ret ?_
  refine ex_then_ret ?_
  refine bp_ret1 HF Tryz.results98 (HF.resBox rfl (HS.out.box 1 rfl) (by kernel_rfl)) ?_
  replace HS:=Bx.mk (HS.out.pick 0 rfl)
  replace HS : Bx (St w0 (rdA rb ab n cb (B + 100) :: boxA b1 5 38 (.agg #[.int .i64 0, .int .i64 0, .int .i64 0, .int .i64 0, .int .i64 0]) :: F) _) := ⟨HS.out.rdLe (by omega)⟩
  exact ⟨⟨0, 0, 0, 0, 0⟩, rfl, (HS.out.erase 1)⟩
 ·clear HF; have HF := HF1; clear HF1
  have dcc1 := ne_of_beq_false cc1
  refine wc_false HF rfl ?_
  refine wp_skip ?_
  refine ex_then ?_
  refine wp_seq ?_
  have hs116 : (⟨#[116]⟩ : ByteArray).size = 1 := rfl
  refine wp_region_lit ?_
  refine wl_mv HF rfl rfl rfl rfl rfl ?_;clear HF a;intro a HF
  replace HS:=Bx.mk (HS.out.pick 0 rfl)
  refine wl_call rfl HF rfl (enter_of Tryz.func94 (by kernel_rfl) rfl) (args := #[.pointer (some ⟨rb, 0, none⟩), .int .i64 12]) rfl (pickN w0 _ rb ab n cb bs hn hR (B + 1) (by omega) 12 (by omega) _ HS.out) rfl rfl ?_
  rintro _ w4 ⟨dn3, rfl, hu3, hs1⟩
  refine ⟨_, rfl, ?_⟩; replace HS := Bx.mk hs1; clear hs1 HF; clear a; intro a HF
  replace HS : Bx (St w0 (rdA rb ab n cb (B + 1 + 1) :: boxA b1 5 38 (.agg #[.int .i64 0, .int .i64 0, .int .i64 0, .int .i64 0, .int .i64 0]) :: F) _) := ⟨HS.out⟩
  refine wl_y rfl HF rfl rfl (yl_addI rfl (HF.ev rfl) (HF.ev rfl) (i64w (by omega))) ?_;clear HF a;intro a HF
  refine wl_mv HF rfl rfl rfl rfl rfl ?_;clear HF a;intro a HF
  replace HS:=Bx.mk (HS.out.pick 0 rfl)
  refine wl_call rfl HF rfl (enter_of Tryz.func94 (by kernel_rfl) rfl) (args := #[.pointer (some ⟨rb, 0, none⟩), .int .i64 9]) rfl (pickN w0 _ rb ab n cb bs hn hR (B + 1 + 1) (by omega) 9 (by omega) _ HS.out) rfl rfl ?_
  rintro _ w5 ⟨dn4, rfl, hu4, hs1⟩
  refine ⟨_, rfl, ?_⟩; replace HS := Bx.mk hs1; clear hs1 HF; clear a; intro a HF
  replace HS : Bx (St w0 (rdA rb ab n cb (B + 1 + 1 + 1) :: boxA b1 5 38 (.agg #[.int .i64 0, .int .i64 0, .int .i64 0, .int .i64 0, .int .i64 0]) :: F) _) := ⟨HS.out⟩
  refine wl_y rfl HF rfl rfl (yl_addI rfl (HF.ev rfl) (HF.ev rfl) (i64w (by omega))) ?_;clear HF a;intro a HF
  refine wl_mv HF rfl rfl rfl rfl rfl ?_;clear HF a;intro a HF
  replace HS:=Bx.mk (HS.out.pick 0 rfl)
  refine wl_call rfl HF rfl (enter_of Tryz.func94 (by kernel_rfl) rfl) (args := #[.pointer (some ⟨rb, 0, none⟩), .int .i64 3]) rfl (pickN w0 _ rb ab n cb bs hn hR (B + 1 + 1 + 1) (by omega) 3 (by omega) _ HS.out) rfl rfl ?_
  rintro _ w6 ⟨dn5, rfl, hu5, hs1⟩
  refine ⟨_, rfl, ?_⟩; replace HS := Bx.mk hs1; clear hs1 HF; clear a; intro a HF
  replace HS : Bx (St w0 (rdA rb ab n cb (B + 1 + 1 + 1 + 1) :: boxA b1 5 38 (.agg #[.int .i64 0, .int .i64 0, .int .i64 0, .int .i64 0, .int .i64 0]) :: F) _) := ⟨HS.out⟩
  refine wl_mv HF rfl rfl rfl rfl rfl ?_;clear HF a;intro a HF
  replace HS:=Bx.mk (HS.out.pick 0 rfl)
  refine wl_call rfl HF rfl (enter_of Tryz.func138 (by kernel_rfl) rfl) (args := #[.pointer (some ⟨rb, 0, none⟩), .int .i64 9]) rfl (l91Text_any w0 _ rb ab n cb bs hn hR (B + 1 + 1 + 1 + 1) (by omega) 9 (by omega) _ HS.out) rfl rfl ?_
  rintro _ w7 ⟨dt6, rfl, ht6, hs1⟩
  refine ⟨_, rfl, ?_⟩; replace HS := Bx.mk hs1; clear hs1 HF; clear a; intro a HF
  replace HS : Bx (St w0 (rdA rb ab n cb (B + 1 + 1 + 1 + 1 + (2 + 2 * 9)) :: boxA b1 5 38 (.agg #[.int .i64 0, .int .i64 0, .int .i64 0, .int .i64 0, .int .i64 0]) :: F) _) := ⟨HS.out⟩
  refine wl_y rfl HF rfl rfl (yl_addS rfl (HF.ev rfl) (HF.ev rfl) (by omega)) ?_;clear HF a;intro a HF
  have hsz : ((⟨#[116]⟩ : ByteArray) ++ dt6).size ≤ 1000000 := by rw [ByteArray.size_append]; show 1 + _ ≤ _; omega
  refine wl_call rfl HF rfl (enter_of Tryz.func140 (by kernel_rfl) rfl) (args := #[.int .i64 ((8 : Int) + (dn3 : Int)), .int .i64 ((1 : Int) + (dn4 : Int)), .int .i64 (dn5 : Int), .string ((⟨#[116]⟩ : ByteArray) ++ dt6)]) rfl (ptrOfS_any ((8 : Int) + (dn3 : Int)) ((1 : Int) + (dn4 : Int)) (dn5 : Int) ((⟨#[116]⟩ : ByteArray) ++ dt6) _ (by omega)) rfl rfl ?_
  rintro _ w8 ⟨rfl, hb⟩
  refine ⟨_, rfl, ?_⟩; replace HS := Bx.mk (HS.out.later hb); clear hb HF; clear a; intro a HF
  obtain ⟨pp, hpp⟩ : ∃ p : PtrD, p = ptrOf ((8 : Int) + (dn3 : Int)) ((1 : Int) + (dn4 : Int)) (dn5 : Int) ((⟨#[116]⟩ : ByteArray) ++ dt6) := ⟨_, rfl⟩; rw [← hpp] at HF; obtain ⟨pb, hpb⟩ : ∃ b : Bool, b = ptrOk ((8 : Int) + (dn3 : Int)) ((1 : Int) + (dn4 : Int)) (dn5 : Int) ((⟨#[116]⟩ : ByteArray) ++ dt6) := ⟨_, rfl⟩; rw [← hpb] at HF; clear hpp hpb
  refine wl_mv HF rfl rfl rfl rfl rfl ?_;clear HF a;intro a HF
  refine wl_y rfl HF rfl rfl (yl_extract rfl (HF.ev rfl) rfl) ?_;clear HF a;intro a HF
  refine wl_y rfl HF rfl rfl (yl_extract rfl (HF.ev rfl) rfl) ?_;clear HF a;intro a HF
  refine wl_alloc rfl HF rfl rfl rfl (Z := [.int .i64 0, .int .i64 0, .int .i64 0, .int .i64 0, .int .i64 0]) (by kernel_rfl) rfl HS.out ?_; clear HF HS a; intro a w9 b7 HF HS; replace HS := Bx.mk HS
  refine wl_storeBox rfl HF rfl rfl (HF.ev rfl) (HF.ev rfl) HS.out 0 rfl (cells_lit [.int .i64 pp.fAt, .int .i64 pp.fBirth, .int .i64 pp.fSize, .int .i64 pp.fSum, .int .i64 pp.fLevel] rfl rfl) (by kernel_rfl) ?_; clear HS; intro w10 HS; replace HS := Bx.mk HS
  have HS : Bx (St w0 (boxA b7 5 38 (.agg #[.int .i64 pp.fAt, .int .i64 pp.fBirth, .int .i64 pp.fSize, .int .i64 pp.fSum, .int .i64 pp.fLevel]) :: rdA rb ab n cb (B + 1 + 1 + 1 + 1 + (2 + 2 * 9)) :: boxA b1 5 38 (.agg #[.int .i64 0, .int .i64 0, .int .i64 0, .int .i64 0, .int .i64 0]) :: F) _) := HS
  refine wl_as HF rfl rfl rfl rfl rfl ?_;clear HF a;intro a HF
  refine wl_ne ?_
  refine wp_seq ?_
  refine wp_sr ?_
  refine wl_mv HF rfl rfl rfl rfl rfl ?_;clear HF a;intro a HF
  replace HS:=Bx.mk (HS.out.pick 1 rfl)
  refine wl_call rfl HF rfl (enter_of Tryz.func94 (by kernel_rfl) rfl) (args := #[.pointer (some ⟨rb, 0, none⟩), .int .i64 24]) rfl (pickN w0 _ rb ab n cb bs hn hR (B + 1 + 1 + 1 + 1 + (2 + 2 * 9)) (by omega) 24 (by omega) _ HS.out) rfl rfl ?_
  rintro _ w11 ⟨dn8, rfl, hu8, hs1⟩
  refine ⟨_, rfl, ?_⟩; replace HS := Bx.mk hs1; clear hs1 HF; clear a; intro a HF
  replace HS : Bx (St w0 (rdA rb ab n cb (B + 1 + 1 + 1 + 1 + (2 + 2 * 9) + 1) :: boxA b7 5 38 (.agg #[.int .i64 pp.fAt, .int .i64 pp.fBirth, .int .i64 pp.fSize, .int .i64 pp.fSum, .int .i64 pp.fLevel]) :: boxA b1 5 38 (.agg #[.int .i64 0, .int .i64 0, .int .i64 0, .int .i64 0, .int .i64 0]) :: F) _) := ⟨HS.out⟩
  refine wl_ne ?_
  refine wp_block ?_
  refine wp_sr ?_
  refine wl_y rfl HF rfl rfl (yl_eqlI rfl (HF.ev rfl) (HF.ev rfl)) ?_;clear HF a;intro a HF
  refine wl_as HF rfl rfl rfl rfl rfl ?_;clear HF a;intro a HF
  refine wl_ne ?_
  refine HF.cases 26 rfl (fun cc2 HF1 => ?_) (fun cc2 HF1 => ?_)
  ·clear HF; have HF := HF1; clear HF1
   have dcc2 := eq_of_beq cc2
   refine wc_true HF rfl ?_
   refine wp_region_lit ?_
   refine wl_mv HF rfl rfl rfl rfl rfl ?_;clear HF a;intro a HF
   replace HS:=Bx.mk (HS.out.pick 0 rfl)
   refine wl_call rfl HF rfl (enter_of Tryz.func141 (by kernel_rfl) rfl) (args := #[.pointer (some ⟨rb, 0, none⟩)]) rfl (l91Row_any w0 _ rb ab n cb bs hn hR (B + 1 + 1 + 1 + 1 + (2 + 2 * 9) + 1) (by omega) _ HS.out) rfl rfl ?_
   rintro _ w12 ⟨di9, rfl, hu9a, hu9b, hs1⟩
   refine ⟨_, rfl, ?_⟩; replace HS := Bx.mk hs1; clear hs1 HF; clear a; intro a HF
   replace HS : Bx (St w0 (rdA rb ab n cb (B + 1 + 1 + 1 + 1 + (2 + 2 * 9) + 1 + 2) :: boxA b7 5 38 (.agg #[.int .i64 pp.fAt, .int .i64 pp.fBirth, .int .i64 pp.fSize, .int .i64 pp.fSum, .int .i64 pp.fLevel]) :: boxA b1 5 38 (.agg #[.int .i64 0, .int .i64 0, .int .i64 0, .int .i64 0, .int .i64 0]) :: F) _) := ⟨HS.out⟩
   refine wl_y rfl HF rfl rfl (yl_fieldAddr (j := 0) rfl (HF.ev rfl) (by kernel_rfl)) ?_;clear HF a;intro a HF
   refine wl_storeF rfl rfl rfl (HF.ev rfl) (HF.ev rfl) (by kernel_rfl) HS.out 1 rfl rfl rfl ?_; clear HS; intro w13 HS; replace HS := Bx.mk HS
   have HS : Bx (St w0 (rdA rb ab n cb (B + 1 + 1 + 1 + 1 + (2 + 2 * 9) + 1 + 2) :: boxA b7 5 38 (.agg #[.int .i64 di9, .int .i64 pp.fBirth, .int .i64 pp.fSize, .int .i64 pp.fSum, .int .i64 pp.fLevel]) :: boxA b1 5 38 (.agg #[.int .i64 0, .int .i64 0, .int .i64 0, .int .i64 0, .int .i64 0]) :: F) _) := HS
   refine wpList_nil ?_
   refine ex_block ?_
   refine ex_then ?_
   refine wp_sr ?_
   refine wl_y rfl HF rfl rfl (yl_loadR (cs := [.int .i64 di9, .int .i64 pp.fBirth, .int .i64 pp.fSize, .int .i64 pp.fSum, .int .i64 pp.fLevel]) rfl (HF.ev rfl) ((HS.out.box 1 rfl).sub 0 5) (by kernel_rfl)) ?_;clear HF a;intro a HF
   refine wl_storeBox rfl HF rfl rfl (HF.ev rfl) (HF.ev rfl) HS.out 2 rfl (cells_lit [.int .i64 di9, .int .i64 pp.fBirth, .int .i64 pp.fSize, .int .i64 pp.fSum, .int .i64 pp.fLevel] rfl rfl) (by kernel_rfl) ?_; clear HS; intro w14 HS; replace HS := Bx.mk HS
   have HS : Bx (St w0 (rdA rb ab n cb (B + 1 + 1 + 1 + 1 + (2 + 2 * 9) + 1 + 2) :: boxA b7 5 38 (.agg #[.int .i64 di9, .int .i64 pp.fBirth, .int .i64 pp.fSize, .int .i64 pp.fSum, .int .i64 pp.fLevel]) :: boxA b1 5 38 (.agg #[.int .i64 di9, .int .i64 pp.fBirth, .int .i64 pp.fSize, .int .i64 pp.fSum, .int .i64 pp.fLevel]) :: F) _) := HS
   refine wl_ne ?_
   refine wp_ret ?_
   refine bp_ret1 HF Tryz.results98 (HF.resBox rfl (HS.out.box 2 rfl) (by kernel_rfl)) ?_
   replace HS:=Bx.mk (HS.out.pick 0 rfl)
   replace HS : Bx (St w0 (rdA rb ab n cb (B + 100) :: boxA b7 5 38 (.agg #[.int .i64 di9, .int .i64 pp.fBirth, .int .i64 pp.fSize, .int .i64 pp.fSum, .int .i64 pp.fLevel]) :: boxA b1 5 38 (.agg #[.int .i64 di9, .int .i64 pp.fBirth, .int .i64 pp.fSize, .int .i64 pp.fSum, .int .i64 pp.fLevel]) :: F) _) := ⟨HS.out.rdLe (by omega)⟩
   exact ⟨⟨di9, pp.fBirth, pp.fSize, pp.fSum, pp.fLevel⟩, rfl, ((HS.out.erase 2).erase 1)⟩
  ·clear HF; have HF := HF1; clear HF1
   have dcc2 := ne_of_beq_false cc2
   refine wc_false HF rfl ?_
   refine wp_sr ?_
   refine wl_y rfl HF rfl rfl (yl_eqlI rfl (HF.ev rfl) (HF.ev rfl)) ?_;clear HF a;intro a HF
   refine wl_as HF rfl rfl rfl rfl rfl ?_;clear HF a;intro a HF
   refine wl_ne ?_
   refine HF.cases 31 rfl (fun cc3 HF1 => ?_) (fun cc3 HF1 => ?_)
   ·clear HF; have HF := HF1; clear HF1
    have dcc3 := eq_of_beq cc3
    refine wc_true HF rfl ?_
    have hle : [(0 : Int), (-1 : Int), (900 : Int), (901 : Int)].length = 4 := rfl
    refine wp_region_lit ?_
    refine wl_buildS (enc := encI) (e := 3) (size := 1) rfl HF rfl rfl rfl (ps := [(0, .int .i64 0), (1, .int .i64 (-1)), (2, .int .i64 900), (3, .int .i64 901)]) rfl (cells := [.int .i64 0, .int .i64 (-1), .int .i64 900, .int .i64 901]) (by kernel_rfl) [(0 : Int), (-1 : Int), (900 : Int), (901 : Int)] rfl rfl (by unfold maxLen; omega) rfl HS.out ?_; clear HF HS a; intro b10 a w15 HF HS; replace HS := Bx.mk HS
    refine wl_mv HF rfl rfl rfl rfl rfl ?_;clear HF a;intro a HF
    replace HS:=Bx.mk (HS.out.pick 1 rfl)
    refine wl_call rfl HF rfl (enter_of Tryz.func94 (by kernel_rfl) rfl) (args := #[.pointer (some ⟨rb, 0, none⟩), .int .i64 4]) rfl (pickN w0 _ rb ab n cb bs hn hR (B + 1 + 1 + 1 + 1 + (2 + 2 * 9) + 1) (by omega) 4 (by omega) _ HS.out) rfl rfl ?_
    rintro _ w16 ⟨dn11, rfl, hu11, hs1⟩
    refine ⟨_, rfl, ?_⟩; replace HS := Bx.mk hs1; clear hs1 HF; clear a; intro a HF
    replace HS : Bx (St w0 (rdA rb ab n cb (B + 1 + 1 + 1 + 1 + (2 + 2 * 9) + 1 + 1) :: rowA encI 1 3 (.slice (some ⟨b10, 0, none⟩) 4 4) ([(0 : Int), (-1 : Int), (900 : Int), (901 : Int)]) :: boxA b7 5 38 (.agg #[.int .i64 pp.fAt, .int .i64 pp.fBirth, .int .i64 pp.fSize, .int .i64 pp.fSum, .int .i64 pp.fLevel]) :: boxA b1 5 38 (.agg #[.int .i64 0, .int .i64 0, .int .i64 0, .int .i64 0, .int .i64 0]) :: F) _) := ⟨HS.out⟩
    refine wl_y rfl HF rfl rfl (yl_indexAddr (e := 3) (i := dn11) (size := 1) rfl (HF.ev rfl) (HF.ev rfl) (by kernel_rfl) rfl (by omega)) ?_;clear HF a;intro a HF
    refine wl_y rfl HF rfl rfl (yl_load (v := .int .i64 (([(0 : Int), (-1 : Int), (900 : Int), (901 : Int)]).getD dn11 0)) rfl (HF.ev rfl) (HS.out.elem1 encI_len 1 rfl (get_getD (xs := [(0 : Int), (-1 : Int), (900 : Int), (901 : Int)]) (j := dn11) (d := 0) (by omega)) rfl) (by kernel_rfl)) ?_;clear HF a;intro a HF
    refine wl_y rfl HF rfl rfl (yl_fieldAddr (j := 1) rfl (HF.ev rfl) (by kernel_rfl)) ?_;clear HF a;intro a HF
    refine wl_storeF rfl rfl rfl (HF.ev rfl) (HF.ev rfl) (by kernel_rfl) HS.out 2 rfl rfl rfl ?_; clear HS; intro w17 HS; replace HS := Bx.mk HS
    have HS : Bx (St w0 (rdA rb ab n cb (B + 1 + 1 + 1 + 1 + (2 + 2 * 9) + 1 + 1) :: rowA encI 1 3 (.slice (some ⟨b10, 0, none⟩) 4 4) ([(0 : Int), (-1 : Int), (900 : Int), (901 : Int)]) :: boxA b7 5 38 (.agg #[.int .i64 pp.fAt, .int .i64 (([(0 : Int), (-1 : Int), (900 : Int), (901 : Int)]).getD dn11 0), .int .i64 pp.fSize, .int .i64 pp.fSum, .int .i64 pp.fLevel]) :: boxA b1 5 38 (.agg #[.int .i64 0, .int .i64 0, .int .i64 0, .int .i64 0, .int .i64 0]) :: F) _) := HS
    refine wpList_nil ?_
    refine ex_block ?_
    refine ex_then ?_
    refine wp_sr ?_
    refine wl_y rfl HF rfl rfl (yl_loadR (cs := [.int .i64 pp.fAt, .int .i64 (([(0 : Int), (-1 : Int), (900 : Int), (901 : Int)]).getD dn11 0), .int .i64 pp.fSize, .int .i64 pp.fSum, .int .i64 pp.fLevel]) rfl (HF.ev rfl) ((HS.out.box 2 rfl).sub 0 5) (by kernel_rfl)) ?_;clear HF a;intro a HF
    refine wl_storeBox rfl HF rfl rfl (HF.ev rfl) (HF.ev rfl) HS.out 3 rfl (cells_lit [.int .i64 pp.fAt, .int .i64 (([(0 : Int), (-1 : Int), (900 : Int), (901 : Int)]).getD dn11 0), .int .i64 pp.fSize, .int .i64 pp.fSum, .int .i64 pp.fLevel] rfl rfl) (by kernel_rfl) ?_; clear HS; intro w18 HS; replace HS := Bx.mk HS
    have HS : Bx (St w0 (rdA rb ab n cb (B + 1 + 1 + 1 + 1 + (2 + 2 * 9) + 1 + 1) :: rowA encI 1 3 (.slice (some ⟨b10, 0, none⟩) 4 4) ([(0 : Int), (-1 : Int), (900 : Int), (901 : Int)]) :: boxA b7 5 38 (.agg #[.int .i64 pp.fAt, .int .i64 (([(0 : Int), (-1 : Int), (900 : Int), (901 : Int)]).getD dn11 0), .int .i64 pp.fSize, .int .i64 pp.fSum, .int .i64 pp.fLevel]) :: boxA b1 5 38 (.agg #[.int .i64 pp.fAt, .int .i64 (([(0 : Int), (-1 : Int), (900 : Int), (901 : Int)]).getD dn11 0), .int .i64 pp.fSize, .int .i64 pp.fSum, .int .i64 pp.fLevel]) :: F) _) := HS
    refine wl_ne ?_
    refine wp_ret ?_
    refine bp_ret1 HF Tryz.results98 (HF.resBox rfl (HS.out.box 3 rfl) (by kernel_rfl)) ?_
    replace HS:=Bx.mk (HS.out.pick 0 rfl)
    replace HS : Bx (St w0 (rdA rb ab n cb (B + 100) :: rowA encI 1 3 (.slice (some ⟨b10, 0, none⟩) 4 4) ([(0 : Int), (-1 : Int), (900 : Int), (901 : Int)]) :: boxA b7 5 38 (.agg #[.int .i64 pp.fAt, .int .i64 (([(0 : Int), (-1 : Int), (900 : Int), (901 : Int)]).getD dn11 0), .int .i64 pp.fSize, .int .i64 pp.fSum, .int .i64 pp.fLevel]) :: boxA b1 5 38 (.agg #[.int .i64 pp.fAt, .int .i64 (([(0 : Int), (-1 : Int), (900 : Int), (901 : Int)]).getD dn11 0), .int .i64 pp.fSize, .int .i64 pp.fSum, .int .i64 pp.fLevel]) :: F) _) := ⟨HS.out.rdLe (by omega)⟩
    exact ⟨⟨pp.fAt, (([(0 : Int), (-1 : Int), (900 : Int), (901 : Int)]).getD dn11 0), pp.fSize, pp.fSum, pp.fLevel⟩, rfl, (((HS.out.erase 3).erase 2).erase 1)⟩
   ·clear HF; have HF := HF1; clear HF1
    have dcc3 := ne_of_beq_false cc3
    refine wc_false HF rfl ?_
    refine wp_sr ?_
    refine wl_y rfl HF rfl rfl (yl_eqlI rfl (HF.ev rfl) (HF.ev rfl)) ?_;clear HF a;intro a HF
    refine wl_as HF rfl rfl rfl rfl rfl ?_;clear HF a;intro a HF
    refine wl_ne ?_
    refine HF.cases 39 rfl (fun cc4 HF1 => ?_) (fun cc4 HF1 => ?_)
    ·clear HF; have HF := HF1; clear HF1
     have dcc4 := eq_of_beq cc4
     refine wc_true HF rfl ?_
     have hle : [(0 : Int), (-1 : Int), (128 : Int), (129 : Int)].length = 4 := rfl
     refine wp_region_lit ?_
     refine wl_buildS (enc := encI) (e := 3) (size := 1) rfl HF rfl rfl rfl (ps := [(0, .int .i64 0), (1, .int .i64 (-1)), (2, .int .i64 128), (3, .int .i64 129)]) rfl (cells := [.int .i64 0, .int .i64 (-1), .int .i64 128, .int .i64 129]) (by kernel_rfl) [(0 : Int), (-1 : Int), (128 : Int), (129 : Int)] rfl rfl (by unfold maxLen; omega) rfl HS.out ?_; clear HF HS a; intro b12 a w19 HF HS; replace HS := Bx.mk HS
     refine wl_mv HF rfl rfl rfl rfl rfl ?_;clear HF a;intro a HF
     replace HS:=Bx.mk (HS.out.pick 1 rfl)
     refine wl_call rfl HF rfl (enter_of Tryz.func94 (by kernel_rfl) rfl) (args := #[.pointer (some ⟨rb, 0, none⟩), .int .i64 4]) rfl (pickN w0 _ rb ab n cb bs hn hR (B + 1 + 1 + 1 + 1 + (2 + 2 * 9) + 1) (by omega) 4 (by omega) _ HS.out) rfl rfl ?_
     rintro _ w20 ⟨dn13, rfl, hu13, hs1⟩
     refine ⟨_, rfl, ?_⟩; replace HS := Bx.mk hs1; clear hs1 HF; clear a; intro a HF
     replace HS : Bx (St w0 (rdA rb ab n cb (B + 1 + 1 + 1 + 1 + (2 + 2 * 9) + 1 + 1) :: rowA encI 1 3 (.slice (some ⟨b12, 0, none⟩) 4 4) ([(0 : Int), (-1 : Int), (128 : Int), (129 : Int)]) :: boxA b7 5 38 (.agg #[.int .i64 pp.fAt, .int .i64 pp.fBirth, .int .i64 pp.fSize, .int .i64 pp.fSum, .int .i64 pp.fLevel]) :: boxA b1 5 38 (.agg #[.int .i64 0, .int .i64 0, .int .i64 0, .int .i64 0, .int .i64 0]) :: F) _) := ⟨HS.out⟩
     refine wl_y rfl HF rfl rfl (yl_indexAddr (e := 3) (i := dn13) (size := 1) rfl (HF.ev rfl) (HF.ev rfl) (by kernel_rfl) rfl (by omega)) ?_;clear HF a;intro a HF
     refine wl_y rfl HF rfl rfl (yl_load (v := .int .i64 (([(0 : Int), (-1 : Int), (128 : Int), (129 : Int)]).getD dn13 0)) rfl (HF.ev rfl) (HS.out.elem1 encI_len 1 rfl (get_getD (xs := [(0 : Int), (-1 : Int), (128 : Int), (129 : Int)]) (j := dn13) (d := 0) (by omega)) rfl) (by kernel_rfl)) ?_;clear HF a;intro a HF
     refine wl_y rfl HF rfl rfl (yl_fieldAddr (j := 2) rfl (HF.ev rfl) (by kernel_rfl)) ?_;clear HF a;intro a HF
     refine wl_storeF rfl rfl rfl (HF.ev rfl) (HF.ev rfl) (by kernel_rfl) HS.out 2 rfl rfl rfl ?_; clear HS; intro w21 HS; replace HS := Bx.mk HS
     have HS : Bx (St w0 (rdA rb ab n cb (B + 1 + 1 + 1 + 1 + (2 + 2 * 9) + 1 + 1) :: rowA encI 1 3 (.slice (some ⟨b12, 0, none⟩) 4 4) ([(0 : Int), (-1 : Int), (128 : Int), (129 : Int)]) :: boxA b7 5 38 (.agg #[.int .i64 pp.fAt, .int .i64 pp.fBirth, .int .i64 (([(0 : Int), (-1 : Int), (128 : Int), (129 : Int)]).getD dn13 0), .int .i64 pp.fSum, .int .i64 pp.fLevel]) :: boxA b1 5 38 (.agg #[.int .i64 0, .int .i64 0, .int .i64 0, .int .i64 0, .int .i64 0]) :: F) _) := HS
     refine wpList_nil ?_
     refine ex_block ?_
     refine ex_then ?_
     refine wp_sr ?_
     refine wl_y rfl HF rfl rfl (yl_loadR (cs := [.int .i64 pp.fAt, .int .i64 pp.fBirth, .int .i64 (([(0 : Int), (-1 : Int), (128 : Int), (129 : Int)]).getD dn13 0), .int .i64 pp.fSum, .int .i64 pp.fLevel]) rfl (HF.ev rfl) ((HS.out.box 2 rfl).sub 0 5) (by kernel_rfl)) ?_;clear HF a;intro a HF
     refine wl_storeBox rfl HF rfl rfl (HF.ev rfl) (HF.ev rfl) HS.out 3 rfl (cells_lit [.int .i64 pp.fAt, .int .i64 pp.fBirth, .int .i64 (([(0 : Int), (-1 : Int), (128 : Int), (129 : Int)]).getD dn13 0), .int .i64 pp.fSum, .int .i64 pp.fLevel] rfl rfl) (by kernel_rfl) ?_; clear HS; intro w22 HS; replace HS := Bx.mk HS
     have HS : Bx (St w0 (rdA rb ab n cb (B + 1 + 1 + 1 + 1 + (2 + 2 * 9) + 1 + 1) :: rowA encI 1 3 (.slice (some ⟨b12, 0, none⟩) 4 4) ([(0 : Int), (-1 : Int), (128 : Int), (129 : Int)]) :: boxA b7 5 38 (.agg #[.int .i64 pp.fAt, .int .i64 pp.fBirth, .int .i64 (([(0 : Int), (-1 : Int), (128 : Int), (129 : Int)]).getD dn13 0), .int .i64 pp.fSum, .int .i64 pp.fLevel]) :: boxA b1 5 38 (.agg #[.int .i64 pp.fAt, .int .i64 pp.fBirth, .int .i64 (([(0 : Int), (-1 : Int), (128 : Int), (129 : Int)]).getD dn13 0), .int .i64 pp.fSum, .int .i64 pp.fLevel]) :: F) _) := HS
     refine wl_ne ?_
     refine wp_ret ?_
     refine bp_ret1 HF Tryz.results98 (HF.resBox rfl (HS.out.box 3 rfl) (by kernel_rfl)) ?_
     replace HS:=Bx.mk (HS.out.pick 0 rfl)
     replace HS : Bx (St w0 (rdA rb ab n cb (B + 100) :: rowA encI 1 3 (.slice (some ⟨b12, 0, none⟩) 4 4) ([(0 : Int), (-1 : Int), (128 : Int), (129 : Int)]) :: boxA b7 5 38 (.agg #[.int .i64 pp.fAt, .int .i64 pp.fBirth, .int .i64 (([(0 : Int), (-1 : Int), (128 : Int), (129 : Int)]).getD dn13 0), .int .i64 pp.fSum, .int .i64 pp.fLevel]) :: boxA b1 5 38 (.agg #[.int .i64 pp.fAt, .int .i64 pp.fBirth, .int .i64 (([(0 : Int), (-1 : Int), (128 : Int), (129 : Int)]).getD dn13 0), .int .i64 pp.fSum, .int .i64 pp.fLevel]) :: F) _) := ⟨HS.out.rdLe (by omega)⟩
     exact ⟨⟨pp.fAt, pp.fBirth, (([(0 : Int), (-1 : Int), (128 : Int), (129 : Int)]).getD dn13 0), pp.fSum, pp.fLevel⟩, rfl, (((HS.out.erase 3).erase 2).erase 1)⟩
    ·clear HF; have HF := HF1; clear HF1
     have dcc4 := ne_of_beq_false cc4
     refine wc_false HF rfl ?_
     refine wp_sr ?_
     refine wl_y rfl HF rfl rfl (yl_eqlI rfl (HF.ev rfl) (HF.ev rfl)) ?_;clear HF a;intro a HF
     refine wl_as HF rfl rfl rfl rfl rfl ?_;clear HF a;intro a HF
     refine wl_ne ?_
     refine HF.cases 47 rfl (fun cc5 HF1 => ?_) (fun cc5 HF1 => ?_)
     ·clear HF; have HF := HF1; clear HF1
      have dcc5 := eq_of_beq cc5
      refine wc_true HF rfl ?_
      have hle : [(-1 : Int), (99460728 : Int), (99460729 : Int), (0 : Int)].length = 4 := rfl
      refine wp_region_lit ?_
      refine wl_buildS (enc := encI) (e := 3) (size := 1) rfl HF rfl rfl rfl (ps := [(0, .int .i64 (-1)), (1, .int .i64 99460728), (2, .int .i64 99460729), (3, .int .i64 0)]) rfl (cells := [.int .i64 (-1), .int .i64 99460728, .int .i64 99460729, .int .i64 0]) (by kernel_rfl) [(-1 : Int), (99460728 : Int), (99460729 : Int), (0 : Int)] rfl rfl (by unfold maxLen; omega) rfl HS.out ?_; clear HF HS a; intro b14 a w23 HF HS; replace HS := Bx.mk HS
      refine wl_mv HF rfl rfl rfl rfl rfl ?_;clear HF a;intro a HF
      replace HS:=Bx.mk (HS.out.pick 1 rfl)
      refine wl_call rfl HF rfl (enter_of Tryz.func94 (by kernel_rfl) rfl) (args := #[.pointer (some ⟨rb, 0, none⟩), .int .i64 4]) rfl (pickN w0 _ rb ab n cb bs hn hR (B + 1 + 1 + 1 + 1 + (2 + 2 * 9) + 1) (by omega) 4 (by omega) _ HS.out) rfl rfl ?_
      rintro _ w24 ⟨dn15, rfl, hu15, hs1⟩
      refine ⟨_, rfl, ?_⟩; replace HS := Bx.mk hs1; clear hs1 HF; clear a; intro a HF
      replace HS : Bx (St w0 (rdA rb ab n cb (B + 1 + 1 + 1 + 1 + (2 + 2 * 9) + 1 + 1) :: rowA encI 1 3 (.slice (some ⟨b14, 0, none⟩) 4 4) ([(-1 : Int), (99460728 : Int), (99460729 : Int), (0 : Int)]) :: boxA b7 5 38 (.agg #[.int .i64 pp.fAt, .int .i64 pp.fBirth, .int .i64 pp.fSize, .int .i64 pp.fSum, .int .i64 pp.fLevel]) :: boxA b1 5 38 (.agg #[.int .i64 0, .int .i64 0, .int .i64 0, .int .i64 0, .int .i64 0]) :: F) _) := ⟨HS.out⟩
      refine wl_y rfl HF rfl rfl (yl_indexAddr (e := 3) (i := dn15) (size := 1) rfl (HF.ev rfl) (HF.ev rfl) (by kernel_rfl) rfl (by omega)) ?_;clear HF a;intro a HF
      refine wl_y rfl HF rfl rfl (yl_load (v := .int .i64 (([(-1 : Int), (99460728 : Int), (99460729 : Int), (0 : Int)]).getD dn15 0)) rfl (HF.ev rfl) (HS.out.elem1 encI_len 1 rfl (get_getD (xs := [(-1 : Int), (99460728 : Int), (99460729 : Int), (0 : Int)]) (j := dn15) (d := 0) (by omega)) rfl) (by kernel_rfl)) ?_;clear HF a;intro a HF
      refine wl_y rfl HF rfl rfl (yl_fieldAddr (j := 3) rfl (HF.ev rfl) (by kernel_rfl)) ?_;clear HF a;intro a HF
      refine wl_storeF rfl rfl rfl (HF.ev rfl) (HF.ev rfl) (by kernel_rfl) HS.out 2 rfl rfl rfl ?_; clear HS; intro w25 HS; replace HS := Bx.mk HS
      have HS : Bx (St w0 (rdA rb ab n cb (B + 1 + 1 + 1 + 1 + (2 + 2 * 9) + 1 + 1) :: rowA encI 1 3 (.slice (some ⟨b14, 0, none⟩) 4 4) ([(-1 : Int), (99460728 : Int), (99460729 : Int), (0 : Int)]) :: boxA b7 5 38 (.agg #[.int .i64 pp.fAt, .int .i64 pp.fBirth, .int .i64 pp.fSize, .int .i64 (([(-1 : Int), (99460728 : Int), (99460729 : Int), (0 : Int)]).getD dn15 0), .int .i64 pp.fLevel]) :: boxA b1 5 38 (.agg #[.int .i64 0, .int .i64 0, .int .i64 0, .int .i64 0, .int .i64 0]) :: F) _) := HS
      refine wpList_nil ?_
      refine ex_block ?_
      refine ex_then ?_
      refine wp_sr ?_
      refine wl_y rfl HF rfl rfl (yl_loadR (cs := [.int .i64 pp.fAt, .int .i64 pp.fBirth, .int .i64 pp.fSize, .int .i64 (([(-1 : Int), (99460728 : Int), (99460729 : Int), (0 : Int)]).getD dn15 0), .int .i64 pp.fLevel]) rfl (HF.ev rfl) ((HS.out.box 2 rfl).sub 0 5) (by kernel_rfl)) ?_;clear HF a;intro a HF
      refine wl_storeBox rfl HF rfl rfl (HF.ev rfl) (HF.ev rfl) HS.out 3 rfl (cells_lit [.int .i64 pp.fAt, .int .i64 pp.fBirth, .int .i64 pp.fSize, .int .i64 (([(-1 : Int), (99460728 : Int), (99460729 : Int), (0 : Int)]).getD dn15 0), .int .i64 pp.fLevel] rfl rfl) (by kernel_rfl) ?_; clear HS; intro w26 HS; replace HS := Bx.mk HS
      have HS : Bx (St w0 (rdA rb ab n cb (B + 1 + 1 + 1 + 1 + (2 + 2 * 9) + 1 + 1) :: rowA encI 1 3 (.slice (some ⟨b14, 0, none⟩) 4 4) ([(-1 : Int), (99460728 : Int), (99460729 : Int), (0 : Int)]) :: boxA b7 5 38 (.agg #[.int .i64 pp.fAt, .int .i64 pp.fBirth, .int .i64 pp.fSize, .int .i64 (([(-1 : Int), (99460728 : Int), (99460729 : Int), (0 : Int)]).getD dn15 0), .int .i64 pp.fLevel]) :: boxA b1 5 38 (.agg #[.int .i64 pp.fAt, .int .i64 pp.fBirth, .int .i64 pp.fSize, .int .i64 (([(-1 : Int), (99460728 : Int), (99460729 : Int), (0 : Int)]).getD dn15 0), .int .i64 pp.fLevel]) :: F) _) := HS
      refine wl_ne ?_
      refine wp_ret ?_
      refine bp_ret1 HF Tryz.results98 (HF.resBox rfl (HS.out.box 3 rfl) (by kernel_rfl)) ?_
      replace HS:=Bx.mk (HS.out.pick 0 rfl)
      replace HS : Bx (St w0 (rdA rb ab n cb (B + 100) :: rowA encI 1 3 (.slice (some ⟨b14, 0, none⟩) 4 4) ([(-1 : Int), (99460728 : Int), (99460729 : Int), (0 : Int)]) :: boxA b7 5 38 (.agg #[.int .i64 pp.fAt, .int .i64 pp.fBirth, .int .i64 pp.fSize, .int .i64 (([(-1 : Int), (99460728 : Int), (99460729 : Int), (0 : Int)]).getD dn15 0), .int .i64 pp.fLevel]) :: boxA b1 5 38 (.agg #[.int .i64 pp.fAt, .int .i64 pp.fBirth, .int .i64 pp.fSize, .int .i64 (([(-1 : Int), (99460728 : Int), (99460729 : Int), (0 : Int)]).getD dn15 0), .int .i64 pp.fLevel]) :: F) _) := ⟨HS.out.rdLe (by omega)⟩
      exact ⟨⟨pp.fAt, pp.fBirth, pp.fSize, (([(-1 : Int), (99460728 : Int), (99460729 : Int), (0 : Int)]).getD dn15 0), pp.fLevel⟩, rfl, (((HS.out.erase 3).erase 2).erase 1)⟩
     ·clear HF; have HF := HF1; clear HF1
      have dcc5 := ne_of_beq_false cc5
      refine wc_false HF rfl ?_
      refine wp_sr ?_
      refine wl_y rfl HF rfl rfl (yl_eqlI rfl (HF.ev rfl) (HF.ev rfl)) ?_;clear HF a;intro a HF
      refine wl_as HF rfl rfl rfl rfl rfl ?_;clear HF a;intro a HF
      refine wl_ne ?_
      refine HF.cases 55 rfl (fun cc6 HF1 => ?_) (fun cc6 HF1 => ?_)
      ·clear HF; have HF := HF1; clear HF1
       have dcc6 := eq_of_beq cc6
       refine wc_true HF rfl ?_
       have hle : [(-1 : Int), (3 : Int), (2 : Int)].length = 3 := rfl
       refine wp_region_lit ?_
       refine wl_buildS (enc := encI) (e := 3) (size := 1) rfl HF rfl rfl rfl (ps := [(0, .int .i64 (-1)), (1, .int .i64 3), (2, .int .i64 2)]) rfl (cells := [.int .i64 (-1), .int .i64 3, .int .i64 2]) (by kernel_rfl) [(-1 : Int), (3 : Int), (2 : Int)] rfl rfl (by unfold maxLen; omega) rfl HS.out ?_; clear HF HS a; intro b16 a w27 HF HS; replace HS := Bx.mk HS
       refine wl_mv HF rfl rfl rfl rfl rfl ?_;clear HF a;intro a HF
       replace HS:=Bx.mk (HS.out.pick 1 rfl)
       refine wl_call rfl HF rfl (enter_of Tryz.func94 (by kernel_rfl) rfl) (args := #[.pointer (some ⟨rb, 0, none⟩), .int .i64 3]) rfl (pickN w0 _ rb ab n cb bs hn hR (B + 1 + 1 + 1 + 1 + (2 + 2 * 9) + 1) (by omega) 3 (by omega) _ HS.out) rfl rfl ?_
       rintro _ w28 ⟨dn17, rfl, hu17, hs1⟩
       refine ⟨_, rfl, ?_⟩; replace HS := Bx.mk hs1; clear hs1 HF; clear a; intro a HF
       replace HS : Bx (St w0 (rdA rb ab n cb (B + 1 + 1 + 1 + 1 + (2 + 2 * 9) + 1 + 1) :: rowA encI 1 3 (.slice (some ⟨b16, 0, none⟩) 3 3) ([(-1 : Int), (3 : Int), (2 : Int)]) :: boxA b7 5 38 (.agg #[.int .i64 pp.fAt, .int .i64 pp.fBirth, .int .i64 pp.fSize, .int .i64 pp.fSum, .int .i64 pp.fLevel]) :: boxA b1 5 38 (.agg #[.int .i64 0, .int .i64 0, .int .i64 0, .int .i64 0, .int .i64 0]) :: F) _) := ⟨HS.out⟩
       refine wl_y rfl HF rfl rfl (yl_indexAddr (e := 3) (i := dn17) (size := 1) rfl (HF.ev rfl) (HF.ev rfl) (by kernel_rfl) rfl (by omega)) ?_;clear HF a;intro a HF
       refine wl_y rfl HF rfl rfl (yl_load (v := .int .i64 (([(-1 : Int), (3 : Int), (2 : Int)]).getD dn17 0)) rfl (HF.ev rfl) (HS.out.elem1 encI_len 1 rfl (get_getD (xs := [(-1 : Int), (3 : Int), (2 : Int)]) (j := dn17) (d := 0) (by omega)) rfl) (by kernel_rfl)) ?_;clear HF a;intro a HF
       refine wl_y rfl HF rfl rfl (yl_fieldAddr (j := 4) rfl (HF.ev rfl) (by kernel_rfl)) ?_;clear HF a;intro a HF
       refine wl_storeF rfl rfl rfl (HF.ev rfl) (HF.ev rfl) (by kernel_rfl) HS.out 2 rfl rfl rfl ?_; clear HS; intro w29 HS; replace HS := Bx.mk HS
       have HS : Bx (St w0 (rdA rb ab n cb (B + 1 + 1 + 1 + 1 + (2 + 2 * 9) + 1 + 1) :: rowA encI 1 3 (.slice (some ⟨b16, 0, none⟩) 3 3) ([(-1 : Int), (3 : Int), (2 : Int)]) :: boxA b7 5 38 (.agg #[.int .i64 pp.fAt, .int .i64 pp.fBirth, .int .i64 pp.fSize, .int .i64 pp.fSum, .int .i64 (([(-1 : Int), (3 : Int), (2 : Int)]).getD dn17 0)]) :: boxA b1 5 38 (.agg #[.int .i64 0, .int .i64 0, .int .i64 0, .int .i64 0, .int .i64 0]) :: F) _) := HS
       refine wpList_nil ?_
       refine ex_block ?_
       refine ex_then ?_
       refine wp_sr ?_
       refine wl_y rfl HF rfl rfl (yl_loadR (cs := [.int .i64 pp.fAt, .int .i64 pp.fBirth, .int .i64 pp.fSize, .int .i64 pp.fSum, .int .i64 (([(-1 : Int), (3 : Int), (2 : Int)]).getD dn17 0)]) rfl (HF.ev rfl) ((HS.out.box 2 rfl).sub 0 5) (by kernel_rfl)) ?_;clear HF a;intro a HF
       refine wl_storeBox rfl HF rfl rfl (HF.ev rfl) (HF.ev rfl) HS.out 3 rfl (cells_lit [.int .i64 pp.fAt, .int .i64 pp.fBirth, .int .i64 pp.fSize, .int .i64 pp.fSum, .int .i64 (([(-1 : Int), (3 : Int), (2 : Int)]).getD dn17 0)] rfl rfl) (by kernel_rfl) ?_; clear HS; intro w30 HS; replace HS := Bx.mk HS
       have HS : Bx (St w0 (rdA rb ab n cb (B + 1 + 1 + 1 + 1 + (2 + 2 * 9) + 1 + 1) :: rowA encI 1 3 (.slice (some ⟨b16, 0, none⟩) 3 3) ([(-1 : Int), (3 : Int), (2 : Int)]) :: boxA b7 5 38 (.agg #[.int .i64 pp.fAt, .int .i64 pp.fBirth, .int .i64 pp.fSize, .int .i64 pp.fSum, .int .i64 (([(-1 : Int), (3 : Int), (2 : Int)]).getD dn17 0)]) :: boxA b1 5 38 (.agg #[.int .i64 pp.fAt, .int .i64 pp.fBirth, .int .i64 pp.fSize, .int .i64 pp.fSum, .int .i64 (([(-1 : Int), (3 : Int), (2 : Int)]).getD dn17 0)]) :: F) _) := HS
       refine wl_ne ?_
       refine wp_ret ?_
       refine bp_ret1 HF Tryz.results98 (HF.resBox rfl (HS.out.box 3 rfl) (by kernel_rfl)) ?_
       replace HS:=Bx.mk (HS.out.pick 0 rfl)
       replace HS : Bx (St w0 (rdA rb ab n cb (B + 100) :: rowA encI 1 3 (.slice (some ⟨b16, 0, none⟩) 3 3) ([(-1 : Int), (3 : Int), (2 : Int)]) :: boxA b7 5 38 (.agg #[.int .i64 pp.fAt, .int .i64 pp.fBirth, .int .i64 pp.fSize, .int .i64 pp.fSum, .int .i64 (([(-1 : Int), (3 : Int), (2 : Int)]).getD dn17 0)]) :: boxA b1 5 38 (.agg #[.int .i64 pp.fAt, .int .i64 pp.fBirth, .int .i64 pp.fSize, .int .i64 pp.fSum, .int .i64 (([(-1 : Int), (3 : Int), (2 : Int)]).getD dn17 0)]) :: F) _) := ⟨HS.out.rdLe (by omega)⟩
       exact ⟨⟨pp.fAt, pp.fBirth, pp.fSize, pp.fSum, (([(-1 : Int), (3 : Int), (2 : Int)]).getD dn17 0)⟩, rfl, (((HS.out.erase 3).erase 2).erase 1)⟩
      ·clear HF; have HF := HF1; clear HF1
       have dcc6 := ne_of_beq_false cc6
       refine wc_false HF rfl ?_
       refine wp_skip ?_
       refine ex_block ?_
       refine ex_then ?_
       refine wp_sr ?_
       refine wl_y rfl HF rfl rfl (yl_loadR (cs := [.int .i64 pp.fAt, .int .i64 pp.fBirth, .int .i64 pp.fSize, .int .i64 pp.fSum, .int .i64 pp.fLevel]) rfl (HF.ev rfl) ((HS.out.box 1 rfl).sub 0 5) (by kernel_rfl)) ?_;clear HF a;intro a HF
       refine wl_storeBox rfl HF rfl rfl (HF.ev rfl) (HF.ev rfl) HS.out 2 rfl (cells_lit [.int .i64 pp.fAt, .int .i64 pp.fBirth, .int .i64 pp.fSize, .int .i64 pp.fSum, .int .i64 pp.fLevel] rfl rfl) (by kernel_rfl) ?_; clear HS; intro w31 HS; replace HS := Bx.mk HS
       have HS : Bx (St w0 (rdA rb ab n cb (B + 1 + 1 + 1 + 1 + (2 + 2 * 9) + 1) :: boxA b7 5 38 (.agg #[.int .i64 pp.fAt, .int .i64 pp.fBirth, .int .i64 pp.fSize, .int .i64 pp.fSum, .int .i64 pp.fLevel]) :: boxA b1 5 38 (.agg #[.int .i64 pp.fAt, .int .i64 pp.fBirth, .int .i64 pp.fSize, .int .i64 pp.fSum, .int .i64 pp.fLevel]) :: F) _) := HS
       refine wl_ne ?_
       refine wp_ret ?_
       refine bp_ret1 HF Tryz.results98 (HF.resBox rfl (HS.out.box 2 rfl) (by kernel_rfl)) ?_
       replace HS:=Bx.mk (HS.out.pick 0 rfl)
       replace HS : Bx (St w0 (rdA rb ab n cb (B + 100) :: boxA b7 5 38 (.agg #[.int .i64 pp.fAt, .int .i64 pp.fBirth, .int .i64 pp.fSize, .int .i64 pp.fSum, .int .i64 pp.fLevel]) :: boxA b1 5 38 (.agg #[.int .i64 pp.fAt, .int .i64 pp.fBirth, .int .i64 pp.fSize, .int .i64 pp.fSum, .int .i64 pp.fLevel]) :: F) _) := ⟨HS.out.rdLe (by omega)⟩
       exact ⟨⟨pp.fAt, pp.fBirth, pp.fSize, pp.fSum, pp.fLevel⟩, rfl, ((HS.out.erase 2).erase 1)⟩

end Go.Proofs.YtoaopmkbfifhaaaGreatDoor

/- FnRaidOne: the law, walked. -/
namespace Go.Proofs.YtoaopmkbfifhaaaGreatDoor
set_option linter.unusedVariables false
set_option linter.unusedSimpArgs false
set_option maxHeartbeats 1000000
set_option maxRecDepth 100000
open Go.RowKit

theorem okR_set {ds : List DiskD} (h : okR ds = true) {d : DiskD} (hd : d.ok = true) {i : Nat} : okR (ds.set i d) = true := by
  obtain ⟨h1, h2⟩ := okR_at h
  refine okR_of (by rw [List.length_set]; exact h1) fun k hk => ?_
  by_cases hi : i < ds.length
  · rw [set_get hi]
    split
    · exact hd
    · exact h2 k hk
  · rw [List.set_eq_of_length_le (by omega)]; exact h2 k hk
end Go.Proofs.YtoaopmkbfifhaaaGreatDoor

/- The plain law of roots: what is written is there, on each disk. -/
namespace Go.Proofs.YtoaopmkbfifhaaaGreatDoor
set_option linter.unusedVariables false
set_option linter.unusedSimpArgs false
set_option maxHeartbeats 1000000
set_option maxRecDepth 100000
open Go.RowKit

/-- One disk: a text put to be written to a row. -/
theorem put_one {d e : DiskD} {m i : Nat} {t : ByteArray} (h : stepPut (m : Int) (fun _ => t) (fun _ => true) i d = some e) (hg : d.fGone = false) : e.fGone = false ∧ e.look m = t ∧ (∀ k, k ≠ m → e.look k = d.look k) ∧ (d.ok = true → e.ok = true) := by
  unfold stepPut at h
  have h1 : (d.fGone || !(fun _ : Nat => true) i) = false := by rw [hg]; rfl
  rw [h1] at h
  cases h2 : d.can (m : Int) t
  · rw [h2] at h; cases h
  · rw [h2] at h
    obtain rfl : d.putD (m : Int) t = e := by simpa using h
    refine ⟨hg, ?_, fun k hk => ?_, fun h => ok_put h h2⟩
    · show (lookW (d.fWaits ++ [(⟨(m : Int), t⟩ : WaitD)]) m).getD _ = _
      rw [lookW_append, if_pos rfl]; rfl
    · show (lookW (d.fWaits ++ [(⟨(m : Int), t⟩ : WaitD)]) k).getD _ = _
      rw [lookW_append, if_neg (by intro e; have e : (m : Int) = (k : Int) := e; omega)]
      rfl
theorem no_gone3 {ds : List DiskD} (h : lostN ds 3 = 0) : ∀ i, i < 3 → (ds.getD i default).fGone = false := by
  rw [lostN_three] at h
  intro i hi
  have key : ∀ b : Bool, b.toNat = 0 → b = false := by decide
  rcases (by omega : i = 0 ∨ i = 1 ∨ i = 2) with rfl | rfl | rfl
  · exact key _ (by omega)
  · exact key _ (by omega)
  · exact key _ (by omega)
/-- A text put to be written to a row of three disks. -/
theorem same_law {ds xs : List DiskD} {m : Nat} {t : ByteArray} (h : sameF ds (m : Int) t = some xs) (hok : okR ds = true) (hl : lostN ds 3 = 0) : okR xs = true ∧ ∀ i, i < 3 → (xs.getD i default).fGone = false ∧ (xs.getD i default).look m = t ∧ ∀ k, k ≠ m → (xs.getD i default).look k = (ds.getD i default).look k := by
  have hg := no_gone3 hl
  obtain ⟨k1, k2⟩ := okR_at hok
  have hst := fun k (hk : k < 3) => put_one (eachTo_at2 h hk) (hg k hk)
  exact ⟨okR_of (eachTo_len h) fun k hk => (hst k hk).2.2.2 (k2 k hk), fun i hi => ⟨(hst i hi).1, (hst i hi).2.1, (hst i hi).2.2.1⟩⟩
theorem root_got {x : RootD} (hx : x.ok = true) : gotB (rootB x) = true ∧ gotR (rootB x) = x := by
  unfold gotB gotR
  rw [rootOf_yes hx rfl]
  exact ⟨rfl, rfl⟩
theorem bestTo_congr {ds es : List DiskD} {row : Nat} : ∀ {n : Nat}, (∀ i, i < n → (ds.getD i default).fGone = (es.getD i default).fGone ∧ (ds.getD i default).look row = (es.getD i default).look row) → bestTo ds row n = bestTo es row n
  | 0, _ => rfl
  | n + 1, h => by
    have ih := bestTo_congr (n := n) fun i hi => h i (by omega)
    show (if _ then _ else _) = (if _ then _ else _)
    rw [ih, (h n (by omega)).1, (h n (by omega)).2]
structure RootLaw (ds xs : List DiskD) (x : RootD) (m : Nat) : Prop where
  ok : x.ok = true
  row : x.fTxg % 4 = (m : Int)
  m4 : m < 4
  od : okR ds = true
  ox : okR xs = true
  is : ∀ i, i < 3 → (xs.getD i default).fGone = false ∧ (xs.getD i default).look m = rootB x ∧ ∀ k, k ≠ m → (xs.getD i default).look k = (ds.getD i default).look k
  g : ∀ i, i < 3 → (ds.getD i default).fGone = false
theorem root_law {ds xs : List DiskD} {x : RootD} (h : rootF ds x = some xs) (hl : lostN ds 3 = 0) : ∃ m : Nat, RootLaw ds xs x m := by
  cases h1 : (okR ds && x.ok) with
  | false => rw [rootF_no h1] at h; cases h
  | true =>
    rw [Bool.and_eq_true] at h1
    rw [rootF_yes h1.1 h1.2] at h
    have hm : x.fTxg % 4 = ((x.fTxg % 4).toNat : Int) := by omega
    rw [hm] at h
    obtain ⟨k1, k2⟩ := same_law h h1.1 hl
    exact ⟨(x.fTxg % 4).toNat, h1.2, hm, by omega, h1.1, k1, k2, no_gone3 hl⟩
/-- Without two of the disks the root is found. -/
theorem RootLaw.found {ds xs : List DiskD} {x : RootD} {m : Nat} (h : RootLaw ds xs x m) {i j k : Nat} (hi : i < 3) (hj : j < 3) (hk : k < 3) (hij : i ≠ j) (hik : i ≠ k) (hjk : j ≠ k) : okR ((xs.set j lostD).set k lostD) = true ∧ rootAtF ((xs.set j lostD).set k lostD) (m : Int) = (x, true) := by
  have hxl := (okR_at h.ox).1
  have hy := okR_set (i := k) (okR_set (i := j) h.ox lost_ok) lost_ok
  have hyl := (okR_at hy).1
  refine ⟨hy, ?_⟩
  have hm4 := h.m4
  have hin : inB (m : Int) 0 3 = true := inB_yes (by omega) (by omega)
  have gone : ∀ n, n < 3 → n ≠ i → (((xs.set j lostD).set k lostD).getD n default).fGone = true := by
    intro n hn hni
    rw [set_get (by rw [List.length_set]; omega)]
    by_cases e : n = k
    · rw [if_pos e]; rfl
    · rw [if_neg e, set_get (by omega), if_pos (by omega)]; rfl
  have here : ((xs.set j lostD).set k lostD).getD i default = xs.getD i default := by
    rw [set_get (by rw [List.length_set]; omega), if_neg hik, set_get (by omega), if_neg hij]
  have step : ∀ n, n < 3 → bestTo ((xs.set j lostD).set k lostD) m (n + 1) = if n = i then bestR (bestTo ((xs.set j lostD).set k lostD) m n) m (rootB x) else bestTo ((xs.set j lostD).set k lostD) m n := by
    intro n hn
    show (if _ then _ else _) = _
    by_cases e : n = i
    · subst e
      rw [if_pos rfl, here, (h.is n hn).1, if_neg (by simp), (h.is n hn).2.1]
    · rw [if_neg e, gone n hn e, if_pos rfl]
  have hx0 := (RootD.all h.ok).1
  have hgot := root_got h.ok
  have best : ∀ b : RootD, b.fTxg = 0 → bestR b m (rootB x) = x := by
    intro b hb
    unfold bestR
    rw [hgot.1, hgot.2, if_pos ⟨rfl, h.row, by omega⟩]
  have b3 : bestTo ((xs.set j lostD).set k lostD) m 3 = x := by
    have s0 := step 0 (by omega)
    have s1 := step 1 (by omega)
    have s2 := step 2 (by omega)
    have z : bestTo ((xs.set j lostD).set k lostD) m 0 = rootZ := rfl
    rcases (by omega : i = 0 ∨ i = 1 ∨ i = 2) with rfl | rfl | rfl
    · rw [s2, if_neg (by omega), s1, if_neg (by omega), s0, if_pos rfl, z]; exact best _ rfl
    · rw [s2, if_neg (by omega), s1, if_pos rfl, s0, if_neg (by omega), z]; exact best _ rfl
    · rw [s2, if_pos rfl, s1, if_neg (by omega), s0, if_neg (by omega), z]; exact best _ rfl
  unfold rootAtF
  rw [if_pos ⟨hy, hin⟩, hyl, Int.toNat_natCast, b3, decide_eq_true (by omega)]
/-- The other rows are as they were. -/
theorem RootLaw.other {ds xs : List DiskD} {x : RootD} {m : Nat} (h : RootLaw ds xs x m) {k : Nat} (hk : k ≠ m) (hk4 : k < 4) : rootAtF xs (k : Int) = rootAtF ds (k : Int) := by
  have h1 := (okR_at h.ox).1
  have h2 := (okR_at h.od).1
  have hin : inB (k : Int) 0 3 = true := inB_yes (by omega) (by omega)
  have e : bestTo xs k 3 = bestTo ds k 3 := bestTo_congr fun i hi => ⟨by rw [(h.is i hi).1, h.g i hi], (h.is i hi).2.2 k hk⟩
  unfold rootAtF
  rw [if_pos ⟨h.ox, hin⟩, if_pos ⟨h.od, hin⟩, h1, h2, Int.toNat_natCast, e]
end Go.Proofs.YtoaopmkbfifhaaaGreatDoor

/- Drawing roots and spoilt texts. -/
namespace Go.Proofs.YtoaopmkbfifhaaaGreatDoor
set_option linter.unusedVariables false
set_option linter.unusedSimpArgs false
set_option maxHeartbeats 1000000
set_option maxRecDepth 100000
open Go.RowKit

theorem l93Root_any (w0 w : World) (rb : Nat) (ab : Option Addr) (n cb : Nat) (bs : List UInt8) (hn : n ≤ 2000) (hR : Rd encB 1 w0 ab n bs) (B : Nat) (hB : B ≤ 700000) (F : List Asr) (hS : St w0 (rdA rb ab n cb B :: F) w) : Calls Tryz.prog 50 #[.pointer (some ⟨rb, 0, none⟩)] w fun e w' => ∃ x : RootD, 0 ≤ x.fTxg ∧ x.fTxg ≤ 1000 ∧ e = .returned (rV x) ∧ St w0 (rdA rb ab n cb (B + 120) :: F) w' := by
 have HS := Bx.mk hS; clear hS
 refine wc_enter Tryz.func50 rfl Tryz.ntmps50 [(0, .pointer (some ⟨rb, 0, none⟩))] ⟨rfl, trivial⟩ rfl ?_; intro a HF
 refine wp_sr ?_
 refine wl_alloc rfl HF rfl rfl rfl (Z := [.int .i64 0, .int .i64 0, .int .i64 0, .int .i64 0, .int .i64 0, .int .i64 0, .int .i64 0, .int .i64 0]) (by kernel_rfl) rfl HS.out ?_; clear HF HS a; intro a w1 b1 HF HS; replace HS := Bx.mk HS
 refine wl_ne ?_
 refine wp_sr ?_
 refine wl_mv HF rfl rfl rfl rfl rfl ?_;clear HF a;intro a HF
 replace HS:=Bx.mk (HS.out.pick 1 rfl)
 refine wl_call rfl HF rfl (enter_of Tryz.func94 (by kernel_rfl) rfl) (args := #[.pointer (some ⟨rb, 0, none⟩), .int .i64 9]) rfl (pickN w0 _ rb ab n cb bs hn hR B (by omega) 9 (by omega) _ HS.out) rfl rfl ?_
 rintro _ w2 ⟨dn2, rfl, hu2, hs1⟩
 refine ⟨_, rfl, ?_⟩; replace HS := Bx.mk hs1; clear hs1 HF; clear a; intro a HF
 replace HS : Bx (St w0 (rdA rb ab n cb (B + 1) :: boxA b1 8 42 (rZ) :: F) _) := ⟨HS.out⟩
 refine wl_y rfl HF rfl rfl (yl_addI rfl (HF.ev rfl) (HF.ev rfl) (i64w (by omega))) ?_;clear HF a;intro a HF
 refine wl_mv HF rfl rfl rfl rfl rfl ?_;clear HF a;intro a HF
 replace HS:=Bx.mk (HS.out.pick 0 rfl)
 refine wl_call rfl HF rfl (enter_of Tryz.func98 (by kernel_rfl) rfl) (args := #[.pointer (some ⟨rb, 0, none⟩)]) rfl (l91Ptr_any w0 _ rb ab n cb bs hn hR (B + 1) (by omega) _ HS.out) rfl rfl ?_
 rintro _ w3 ⟨dp3, rfl, hs1⟩
 refine ⟨_, rfl, ?_⟩; replace HS := Bx.mk hs1; clear hs1 HF; clear a; intro a HF
 replace HS : Bx (St w0 (rdA rb ab n cb (B + 1 + 100) :: boxA b1 8 42 (rZ) :: F) _) := ⟨HS.out⟩
 refine wl_mv HF rfl rfl rfl rfl rfl ?_;clear HF a;intro a HF
 replace HS:=Bx.mk (HS.out.pick 0 rfl)
 refine wl_call rfl HF rfl (enter_of Tryz.func94 (by kernel_rfl) rfl) (args := #[.pointer (some ⟨rb, 0, none⟩), .int .i64 3]) rfl (pickN w0 _ rb ab n cb bs hn hR (B + 1 + 100) (by omega) 3 (by omega) _ HS.out) rfl rfl ?_
 rintro _ w4 ⟨dn4, rfl, hu4, hs1⟩
 refine ⟨_, rfl, ?_⟩; replace HS := Bx.mk hs1; clear hs1 HF; clear a; intro a HF
 replace HS : Bx (St w0 (rdA rb ab n cb (B + 1 + 100 + 1) :: boxA b1 8 42 (rZ) :: F) _) := ⟨HS.out⟩
 refine wl_mv HF rfl rfl rfl rfl rfl ?_;clear HF a;intro a HF
 replace HS:=Bx.mk (HS.out.pick 0 rfl)
 refine wl_call rfl HF rfl (enter_of Tryz.func94 (by kernel_rfl) rfl) (args := #[.pointer (some ⟨rb, 0, none⟩), .int .i64 16]) rfl (pickN w0 _ rb ab n cb bs hn hR (B + 1 + 100 + 1) (by omega) 16 (by omega) _ HS.out) rfl rfl ?_
 rintro _ w5 ⟨dn5, rfl, hu5, hs1⟩
 refine ⟨_, rfl, ?_⟩; replace HS := Bx.mk hs1; clear hs1 HF; clear a; intro a HF
 replace HS : Bx (St w0 (rdA rb ab n cb (B + 1 + 100 + 1 + 1) :: boxA b1 8 42 (rZ) :: F) _) := ⟨HS.out⟩
 refine wl_y rfl HF rfl rfl (yl_addI rfl (HF.ev rfl) (HF.ev rfl) (i64w (by omega))) ?_;clear HF a;intro a HF
 refine wl_y rfl HF rfl rfl (yl_build HF rfl (ps := [(0, .agg #[.int .i64 dp3.fAt, .int .i64 dp3.fBirth, .int .i64 dp3.fSize, .int .i64 dp3.fSum, .int .i64 dp3.fLevel]), (1, .int .i64 (dn4 : Int)), (2, .int .i64 ((1 : Int) + (dn5 : Int)))]) rfl (cs := #[.int .i64 dp3.fAt, .int .i64 dp3.fBirth, .int .i64 dp3.fSize, .int .i64 dp3.fSum, .int .i64 dp3.fLevel, .int .i64 (dn4 : Int), .int .i64 ((1 : Int) + (dn5 : Int))]) (by kernel_rfl)) ?_;clear HF a;intro a HF
 refine wl_y rfl HF rfl rfl (yl_build HF rfl (ps := [(0, .int .i64 ((1 : Int) + (dn2 : Int))), (1, .agg #[.int .i64 dp3.fAt, .int .i64 dp3.fBirth, .int .i64 dp3.fSize, .int .i64 dp3.fSum, .int .i64 dp3.fLevel, .int .i64 (dn4 : Int), .int .i64 ((1 : Int) + (dn5 : Int))])]) rfl (cs := #[.int .i64 ((1 : Int) + (dn2 : Int)), .int .i64 dp3.fAt, .int .i64 dp3.fBirth, .int .i64 dp3.fSize, .int .i64 dp3.fSum, .int .i64 dp3.fLevel, .int .i64 (dn4 : Int), .int .i64 ((1 : Int) + (dn5 : Int))]) (by kernel_rfl)) ?_;clear HF a;intro a HF
 refine wl_alloc rfl HF rfl rfl rfl (Z := [.int .i64 0, .int .i64 0, .int .i64 0, .int .i64 0, .int .i64 0, .int .i64 0, .int .i64 0, .int .i64 0]) (by kernel_rfl) rfl HS.out ?_; clear HF HS a; intro a w6 b6 HF HS; replace HS := Bx.mk HS
 refine wl_storeBox rfl HF rfl rfl (HF.ev rfl) (HF.ev rfl) HS.out 0 rfl (cells_lit [.int .i64 ((1 : Int) + (dn2 : Int)), .int .i64 dp3.fAt, .int .i64 dp3.fBirth, .int .i64 dp3.fSize, .int .i64 dp3.fSum, .int .i64 dp3.fLevel, .int .i64 (dn4 : Int), .int .i64 ((1 : Int) + (dn5 : Int))] rfl rfl) (by kernel_rfl) ?_; clear HS; intro w7 HS; replace HS := Bx.mk HS
 have HS : Bx (St w0 (boxA b6 8 42 (.agg #[.int .i64 ((1 : Int) + (dn2 : Int)), .int .i64 dp3.fAt, .int .i64 dp3.fBirth, .int .i64 dp3.fSize, .int .i64 dp3.fSum, .int .i64 dp3.fLevel, .int .i64 (dn4 : Int), .int .i64 ((1 : Int) + (dn5 : Int))]) :: rdA rb ab n cb (B + 1 + 100 + 1 + 1) :: boxA b1 8 42 (rZ) :: F) _) := HS
 refine wl_ne ?_
 refine wp_seq ?_
 refine wp_sr ?_
 refine wl_mv HF rfl rfl rfl rfl rfl ?_;clear HF a;intro a HF
 replace HS:=Bx.mk (HS.out.pick 1 rfl)
 refine wl_call rfl HF rfl (enter_of Tryz.func94 (by kernel_rfl) rfl) (args := #[.pointer (some ⟨rb, 0, none⟩), .int .i64 16]) rfl (pickN w0 _ rb ab n cb bs hn hR (B + 1 + 100 + 1 + 1) (by omega) 16 (by omega) _ HS.out) rfl rfl ?_
 rintro _ w8 ⟨dn7, rfl, hu7, hs1⟩
 refine ⟨_, rfl, ?_⟩; replace HS := Bx.mk hs1; clear hs1 HF; clear a; intro a HF
 replace HS : Bx (St w0 (rdA rb ab n cb (B + 1 + 100 + 1 + 1 + 1) :: boxA b6 8 42 (.agg #[.int .i64 ((1 : Int) + (dn2 : Int)), .int .i64 dp3.fAt, .int .i64 dp3.fBirth, .int .i64 dp3.fSize, .int .i64 dp3.fSum, .int .i64 dp3.fLevel, .int .i64 (dn4 : Int), .int .i64 ((1 : Int) + (dn5 : Int))]) :: boxA b1 8 42 (rZ) :: F) _) := ⟨HS.out⟩
 refine wl_ne ?_
 refine wp_block ?_
 refine wp_sr ?_
 refine wl_y rfl HF rfl rfl (yl_eqlI rfl (HF.ev rfl) (HF.ev rfl)) ?_;clear HF a;intro a HF
 refine wl_as HF rfl rfl rfl rfl rfl ?_;clear HF a;intro a HF
 refine wl_ne ?_
 refine HF.cases 18 rfl (fun cc1 HF1 => ?_) (fun cc1 HF1 => ?_)
 ·clear HF; have HF := HF1; clear HF1
  have dcc1 := eq_of_beq cc1
  refine wc_true HF rfl ?_
  have hl3 : ∀ k, k < 3 → 0 ≤ [(0 : Int), (900 : Int), (901 : Int)].getD k 0 ∧ [(0 : Int), (900 : Int), (901 : Int)].getD k 0 ≤ 1000 := by decide
  refine wp_region_lit ?_
  refine wl_buildS (enc := encI) (e := 3) (size := 1) rfl HF rfl rfl rfl (ps := [(0, .int .i64 0), (1, .int .i64 900), (2, .int .i64 901)]) rfl (cells := [.int .i64 0, .int .i64 900, .int .i64 901]) (by kernel_rfl) [(0 : Int), (900 : Int), (901 : Int)] rfl rfl (by unfold maxLen; omega) rfl HS.out ?_; clear HF HS a; intro b8 a w9 HF HS; replace HS := Bx.mk HS
  refine wl_mv HF rfl rfl rfl rfl rfl ?_;clear HF a;intro a HF
  replace HS:=Bx.mk (HS.out.pick 1 rfl)
  refine wl_call rfl HF rfl (enter_of Tryz.func94 (by kernel_rfl) rfl) (args := #[.pointer (some ⟨rb, 0, none⟩), .int .i64 3]) rfl (pickN w0 _ rb ab n cb bs hn hR (B + 1 + 100 + 1 + 1 + 1) (by omega) 3 (by omega) _ HS.out) rfl rfl ?_
  rintro _ w10 ⟨dn9, rfl, hu9, hs1⟩
  refine ⟨_, rfl, ?_⟩; replace HS := Bx.mk hs1; clear hs1 HF; clear a; intro a HF
  replace HS : Bx (St w0 (rdA rb ab n cb (B + 1 + 100 + 1 + 1 + 1 + 1) :: rowA encI 1 3 (.slice (some ⟨b8, 0, none⟩) 3 3) ([(0 : Int), (900 : Int), (901 : Int)]) :: boxA b6 8 42 (.agg #[.int .i64 ((1 : Int) + (dn2 : Int)), .int .i64 dp3.fAt, .int .i64 dp3.fBirth, .int .i64 dp3.fSize, .int .i64 dp3.fSum, .int .i64 dp3.fLevel, .int .i64 (dn4 : Int), .int .i64 ((1 : Int) + (dn5 : Int))]) :: boxA b1 8 42 (rZ) :: F) _) := ⟨HS.out⟩
  refine wl_y rfl HF rfl rfl (yl_indexAddr (e := 3) (i := dn9) (size := 1) rfl (HF.ev rfl) (HF.ev rfl) (by kernel_rfl) rfl (by omega)) ?_;clear HF a;intro a HF
  refine wl_y rfl HF rfl rfl (yl_load (v := .int .i64 (([(0 : Int), (900 : Int), (901 : Int)]).getD dn9 0)) rfl (HF.ev rfl) (HS.out.elem1 encI_len 1 rfl (get_getD (xs := [(0 : Int), (900 : Int), (901 : Int)]) (j := dn9) (d := 0) (by (try simp only [List.length_cons, List.length_nil]); omega)) rfl) (by kernel_rfl)) ?_;clear HF a;intro a HF
  refine wl_y rfl HF rfl rfl (yl_fieldAddr (j := 0) rfl (HF.ev rfl) (by kernel_rfl)) ?_;clear HF a;intro a HF
  refine wl_storeF rfl rfl rfl (HF.ev rfl) (HF.ev rfl) (by kernel_rfl) HS.out 2 rfl rfl rfl ?_; clear HS; intro w11 HS; replace HS := Bx.mk HS
  have HS : Bx (St w0 (rdA rb ab n cb (B + 1 + 100 + 1 + 1 + 1 + 1) :: rowA encI 1 3 (.slice (some ⟨b8, 0, none⟩) 3 3) ([(0 : Int), (900 : Int), (901 : Int)]) :: boxA b6 8 42 (.agg #[.int .i64 (([(0 : Int), (900 : Int), (901 : Int)]).getD dn9 0), .int .i64 dp3.fAt, .int .i64 dp3.fBirth, .int .i64 dp3.fSize, .int .i64 dp3.fSum, .int .i64 dp3.fLevel, .int .i64 (dn4 : Int), .int .i64 ((1 : Int) + (dn5 : Int))]) :: boxA b1 8 42 (rZ) :: F) _) := HS
  refine wpList_nil ?_
  refine ex_block ?_
  refine ex_then ?_
  refine wp_sr ?_
  refine wl_y rfl HF rfl rfl (yl_loadR (cs := [.int .i64 (([(0 : Int), (900 : Int), (901 : Int)]).getD dn9 0), .int .i64 dp3.fAt, .int .i64 dp3.fBirth, .int .i64 dp3.fSize, .int .i64 dp3.fSum, .int .i64 dp3.fLevel, .int .i64 (dn4 : Int), .int .i64 ((1 : Int) + (dn5 : Int))]) rfl (HF.ev rfl) ((HS.out.box 2 rfl).sub 0 8) (by kernel_rfl)) ?_;clear HF a;intro a HF
  refine wl_storeBox rfl HF rfl rfl (HF.ev rfl) (HF.ev rfl) HS.out 3 rfl (cells_lit [.int .i64 (([(0 : Int), (900 : Int), (901 : Int)]).getD dn9 0), .int .i64 dp3.fAt, .int .i64 dp3.fBirth, .int .i64 dp3.fSize, .int .i64 dp3.fSum, .int .i64 dp3.fLevel, .int .i64 (dn4 : Int), .int .i64 ((1 : Int) + (dn5 : Int))] rfl rfl) (by kernel_rfl) ?_; clear HS; intro w12 HS; replace HS := Bx.mk HS
  have HS : Bx (St w0 (rdA rb ab n cb (B + 1 + 100 + 1 + 1 + 1 + 1) :: rowA encI 1 3 (.slice (some ⟨b8, 0, none⟩) 3 3) ([(0 : Int), (900 : Int), (901 : Int)]) :: boxA b6 8 42 (.agg #[.int .i64 (([(0 : Int), (900 : Int), (901 : Int)]).getD dn9 0), .int .i64 dp3.fAt, .int .i64 dp3.fBirth, .int .i64 dp3.fSize, .int .i64 dp3.fSum, .int .i64 dp3.fLevel, .int .i64 (dn4 : Int), .int .i64 ((1 : Int) + (dn5 : Int))]) :: boxA b1 8 42 (.agg #[.int .i64 (([(0 : Int), (900 : Int), (901 : Int)]).getD dn9 0), .int .i64 dp3.fAt, .int .i64 dp3.fBirth, .int .i64 dp3.fSize, .int .i64 dp3.fSum, .int .i64 dp3.fLevel, .int .i64 (dn4 : Int), .int .i64 ((1 : Int) + (dn5 : Int))]) :: F) _) := HS
  refine wl_ne ?_
  refine wp_ret ?_
  refine bp_ret1 HF Tryz.results50 (HF.resBox rfl (HS.out.box 3 rfl) (by kernel_rfl)) ?_
  replace HS:=Bx.mk (HS.out.pick 0 rfl)
  replace HS : Bx (St w0 (rdA rb ab n cb (B + 120) :: rowA encI 1 3 (.slice (some ⟨b8, 0, none⟩) 3 3) ([(0 : Int), (900 : Int), (901 : Int)]) :: boxA b6 8 42 (.agg #[.int .i64 (([(0 : Int), (900 : Int), (901 : Int)]).getD dn9 0), .int .i64 dp3.fAt, .int .i64 dp3.fBirth, .int .i64 dp3.fSize, .int .i64 dp3.fSum, .int .i64 dp3.fLevel, .int .i64 (dn4 : Int), .int .i64 ((1 : Int) + (dn5 : Int))]) :: boxA b1 8 42 (.agg #[.int .i64 (([(0 : Int), (900 : Int), (901 : Int)]).getD dn9 0), .int .i64 dp3.fAt, .int .i64 dp3.fBirth, .int .i64 dp3.fSize, .int .i64 dp3.fSum, .int .i64 dp3.fLevel, .int .i64 (dn4 : Int), .int .i64 ((1 : Int) + (dn5 : Int))]) :: F) _) := ⟨HS.out.rdLe (by omega)⟩
  have h3 := hl3 dn9 (by omega)
  exact ⟨⟨(([(0 : Int), (900 : Int), (901 : Int)]).getD dn9 0), ⟨⟨dp3.fAt, dp3.fBirth, dp3.fSize, dp3.fSum, dp3.fLevel⟩, (dn4 : Int), (1 : Int) + (dn5 : Int)⟩⟩, h3.1, h3.2, rfl, (((HS.out.erase 3).erase 2).erase 1)⟩
 ·clear HF; have HF := HF1; clear HF1
  have dcc1 := ne_of_beq_false cc1
  refine wc_false HF rfl ?_
  refine wp_sr ?_
  refine wl_y rfl HF rfl rfl (yl_eqlI rfl (HF.ev rfl) (HF.ev rfl)) ?_;clear HF a;intro a HF
  refine wl_as HF rfl rfl rfl rfl rfl ?_;clear HF a;intro a HF
  refine wl_ne ?_
  refine HF.cases 26 rfl (fun cc2 HF1 => ?_) (fun cc2 HF1 => ?_)
  ·clear HF; have HF := HF1; clear HF1
   have dcc2 := eq_of_beq cc2
   refine wc_true HF rfl ?_
   refine wp_region_lit ?_
   refine wl_buildS (enc := encI) (e := 3) (size := 1) rfl HF rfl rfl rfl (ps := [(0, .int .i64 (-1)), (1, .int .i64 3)]) rfl (cells := [.int .i64 (-1), .int .i64 3]) (by kernel_rfl) [(-1 : Int), (3 : Int)] rfl rfl (by unfold maxLen; omega) rfl HS.out ?_; clear HF HS a; intro b10 a w13 HF HS; replace HS := Bx.mk HS
   refine wl_mv HF rfl rfl rfl rfl rfl ?_;clear HF a;intro a HF
   replace HS:=Bx.mk (HS.out.pick 1 rfl)
   refine wl_call rfl HF rfl (enter_of Tryz.func94 (by kernel_rfl) rfl) (args := #[.pointer (some ⟨rb, 0, none⟩), .int .i64 2]) rfl (pickN w0 _ rb ab n cb bs hn hR (B + 1 + 100 + 1 + 1 + 1) (by omega) 2 (by omega) _ HS.out) rfl rfl ?_
   rintro _ w14 ⟨dn11, rfl, hu11, hs1⟩
   refine ⟨_, rfl, ?_⟩; replace HS := Bx.mk hs1; clear hs1 HF; clear a; intro a HF
   replace HS : Bx (St w0 (rdA rb ab n cb (B + 1 + 100 + 1 + 1 + 1 + 1) :: rowA encI 1 3 (.slice (some ⟨b10, 0, none⟩) 2 2) ([(-1 : Int), (3 : Int)]) :: boxA b6 8 42 (.agg #[.int .i64 ((1 : Int) + (dn2 : Int)), .int .i64 dp3.fAt, .int .i64 dp3.fBirth, .int .i64 dp3.fSize, .int .i64 dp3.fSum, .int .i64 dp3.fLevel, .int .i64 (dn4 : Int), .int .i64 ((1 : Int) + (dn5 : Int))]) :: boxA b1 8 42 (rZ) :: F) _) := ⟨HS.out⟩
   refine wl_y rfl HF rfl rfl (yl_indexAddr (e := 3) (i := dn11) (size := 1) rfl (HF.ev rfl) (HF.ev rfl) (by kernel_rfl) rfl (by omega)) ?_;clear HF a;intro a HF
   refine wl_y rfl HF rfl rfl (yl_load (v := .int .i64 (([(-1 : Int), (3 : Int)]).getD dn11 0)) rfl (HF.ev rfl) (HS.out.elem1 encI_len 1 rfl (get_getD (xs := [(-1 : Int), (3 : Int)]) (j := dn11) (d := 0) (by (try simp only [List.length_cons, List.length_nil]); omega)) rfl) (by kernel_rfl)) ?_;clear HF a;intro a HF
   refine wl_y rfl HF rfl rfl (yl_fieldAddr (j := 1) rfl (HF.ev rfl) (by kernel_rfl)) ?_;clear HF a;intro a HF
   refine wl_y rfl HF rfl rfl (yl_fieldAddr (j := 5) rfl (HF.ev rfl) (by kernel_rfl)) ?_;clear HF a;intro a HF
   refine wl_storeF rfl rfl rfl (HF.ev rfl) (HF.ev rfl) (by kernel_rfl) HS.out 2 rfl rfl rfl ?_; clear HS; intro w15 HS; replace HS := Bx.mk HS
   have HS : Bx (St w0 (rdA rb ab n cb (B + 1 + 100 + 1 + 1 + 1 + 1) :: rowA encI 1 3 (.slice (some ⟨b10, 0, none⟩) 2 2) ([(-1 : Int), (3 : Int)]) :: boxA b6 8 42 (.agg #[.int .i64 ((1 : Int) + (dn2 : Int)), .int .i64 dp3.fAt, .int .i64 dp3.fBirth, .int .i64 dp3.fSize, .int .i64 dp3.fSum, .int .i64 dp3.fLevel, .int .i64 (([(-1 : Int), (3 : Int)]).getD dn11 0), .int .i64 ((1 : Int) + (dn5 : Int))]) :: boxA b1 8 42 (rZ) :: F) _) := HS
   refine wpList_nil ?_
   refine ex_block ?_
   refine ex_then ?_
   refine wp_sr ?_
   refine wl_y rfl HF rfl rfl (yl_loadR (cs := [.int .i64 ((1 : Int) + (dn2 : Int)), .int .i64 dp3.fAt, .int .i64 dp3.fBirth, .int .i64 dp3.fSize, .int .i64 dp3.fSum, .int .i64 dp3.fLevel, .int .i64 (([(-1 : Int), (3 : Int)]).getD dn11 0), .int .i64 ((1 : Int) + (dn5 : Int))]) rfl (HF.ev rfl) ((HS.out.box 2 rfl).sub 0 8) (by kernel_rfl)) ?_;clear HF a;intro a HF
   refine wl_storeBox rfl HF rfl rfl (HF.ev rfl) (HF.ev rfl) HS.out 3 rfl (cells_lit [.int .i64 ((1 : Int) + (dn2 : Int)), .int .i64 dp3.fAt, .int .i64 dp3.fBirth, .int .i64 dp3.fSize, .int .i64 dp3.fSum, .int .i64 dp3.fLevel, .int .i64 (([(-1 : Int), (3 : Int)]).getD dn11 0), .int .i64 ((1 : Int) + (dn5 : Int))] rfl rfl) (by kernel_rfl) ?_; clear HS; intro w16 HS; replace HS := Bx.mk HS
   have HS : Bx (St w0 (rdA rb ab n cb (B + 1 + 100 + 1 + 1 + 1 + 1) :: rowA encI 1 3 (.slice (some ⟨b10, 0, none⟩) 2 2) ([(-1 : Int), (3 : Int)]) :: boxA b6 8 42 (.agg #[.int .i64 ((1 : Int) + (dn2 : Int)), .int .i64 dp3.fAt, .int .i64 dp3.fBirth, .int .i64 dp3.fSize, .int .i64 dp3.fSum, .int .i64 dp3.fLevel, .int .i64 (([(-1 : Int), (3 : Int)]).getD dn11 0), .int .i64 ((1 : Int) + (dn5 : Int))]) :: boxA b1 8 42 (.agg #[.int .i64 ((1 : Int) + (dn2 : Int)), .int .i64 dp3.fAt, .int .i64 dp3.fBirth, .int .i64 dp3.fSize, .int .i64 dp3.fSum, .int .i64 dp3.fLevel, .int .i64 (([(-1 : Int), (3 : Int)]).getD dn11 0), .int .i64 ((1 : Int) + (dn5 : Int))]) :: F) _) := HS
   refine wl_ne ?_
   refine wp_ret ?_
   refine bp_ret1 HF Tryz.results50 (HF.resBox rfl (HS.out.box 3 rfl) (by kernel_rfl)) ?_
   replace HS:=Bx.mk (HS.out.pick 0 rfl)
   replace HS : Bx (St w0 (rdA rb ab n cb (B + 120) :: rowA encI 1 3 (.slice (some ⟨b10, 0, none⟩) 2 2) ([(-1 : Int), (3 : Int)]) :: boxA b6 8 42 (.agg #[.int .i64 ((1 : Int) + (dn2 : Int)), .int .i64 dp3.fAt, .int .i64 dp3.fBirth, .int .i64 dp3.fSize, .int .i64 dp3.fSum, .int .i64 dp3.fLevel, .int .i64 (([(-1 : Int), (3 : Int)]).getD dn11 0), .int .i64 ((1 : Int) + (dn5 : Int))]) :: boxA b1 8 42 (.agg #[.int .i64 ((1 : Int) + (dn2 : Int)), .int .i64 dp3.fAt, .int .i64 dp3.fBirth, .int .i64 dp3.fSize, .int .i64 dp3.fSum, .int .i64 dp3.fLevel, .int .i64 (([(-1 : Int), (3 : Int)]).getD dn11 0), .int .i64 ((1 : Int) + (dn5 : Int))]) :: F) _) := ⟨HS.out.rdLe (by omega)⟩
   exact ⟨⟨(1 : Int) + (dn2 : Int), ⟨⟨dp3.fAt, dp3.fBirth, dp3.fSize, dp3.fSum, dp3.fLevel⟩, (([(-1 : Int), (3 : Int)]).getD dn11 0), (1 : Int) + (dn5 : Int)⟩⟩, by show (0 : Int) ≤ (1 : Int) + (dn2 : Int); omega, by show (1 : Int) + (dn2 : Int) ≤ (1000 : Int); omega, rfl, (((HS.out.erase 3).erase 2).erase 1)⟩
  ·clear HF; have HF := HF1; clear HF1
   have dcc2 := ne_of_beq_false cc2
   refine wc_false HF rfl ?_
   refine wp_sr ?_
   refine wl_y rfl HF rfl rfl (yl_eqlI rfl (HF.ev rfl) (HF.ev rfl)) ?_;clear HF a;intro a HF
   refine wl_as HF rfl rfl rfl rfl rfl ?_;clear HF a;intro a HF
   refine wl_ne ?_
   refine HF.cases 35 rfl (fun cc3 HF1 => ?_) (fun cc3 HF1 => ?_)
   ·clear HF; have HF := HF1; clear HF1
    have dcc3 := eq_of_beq cc3
    refine wc_true HF rfl ?_
    refine wp_region_lit ?_
    refine wl_buildS (enc := encI) (e := 3) (size := 1) rfl HF rfl rfl rfl (ps := [(0, .int .i64 0), (1, .int .i64 17)]) rfl (cells := [.int .i64 0, .int .i64 17]) (by kernel_rfl) [(0 : Int), (17 : Int)] rfl rfl (by unfold maxLen; omega) rfl HS.out ?_; clear HF HS a; intro b12 a w17 HF HS; replace HS := Bx.mk HS
    refine wl_mv HF rfl rfl rfl rfl rfl ?_;clear HF a;intro a HF
    replace HS:=Bx.mk (HS.out.pick 1 rfl)
    refine wl_call rfl HF rfl (enter_of Tryz.func94 (by kernel_rfl) rfl) (args := #[.pointer (some ⟨rb, 0, none⟩), .int .i64 2]) rfl (pickN w0 _ rb ab n cb bs hn hR (B + 1 + 100 + 1 + 1 + 1) (by omega) 2 (by omega) _ HS.out) rfl rfl ?_
    rintro _ w18 ⟨dn13, rfl, hu13, hs1⟩
    refine ⟨_, rfl, ?_⟩; replace HS := Bx.mk hs1; clear hs1 HF; clear a; intro a HF
    replace HS : Bx (St w0 (rdA rb ab n cb (B + 1 + 100 + 1 + 1 + 1 + 1) :: rowA encI 1 3 (.slice (some ⟨b12, 0, none⟩) 2 2) ([(0 : Int), (17 : Int)]) :: boxA b6 8 42 (.agg #[.int .i64 ((1 : Int) + (dn2 : Int)), .int .i64 dp3.fAt, .int .i64 dp3.fBirth, .int .i64 dp3.fSize, .int .i64 dp3.fSum, .int .i64 dp3.fLevel, .int .i64 (dn4 : Int), .int .i64 ((1 : Int) + (dn5 : Int))]) :: boxA b1 8 42 (rZ) :: F) _) := ⟨HS.out⟩
    refine wl_y rfl HF rfl rfl (yl_indexAddr (e := 3) (i := dn13) (size := 1) rfl (HF.ev rfl) (HF.ev rfl) (by kernel_rfl) rfl (by omega)) ?_;clear HF a;intro a HF
    refine wl_y rfl HF rfl rfl (yl_load (v := .int .i64 (([(0 : Int), (17 : Int)]).getD dn13 0)) rfl (HF.ev rfl) (HS.out.elem1 encI_len 1 rfl (get_getD (xs := [(0 : Int), (17 : Int)]) (j := dn13) (d := 0) (by (try simp only [List.length_cons, List.length_nil]); omega)) rfl) (by kernel_rfl)) ?_;clear HF a;intro a HF
    refine wl_y rfl HF rfl rfl (yl_fieldAddr (j := 1) rfl (HF.ev rfl) (by kernel_rfl)) ?_;clear HF a;intro a HF
    refine wl_y rfl HF rfl rfl (yl_fieldAddr (j := 6) rfl (HF.ev rfl) (by kernel_rfl)) ?_;clear HF a;intro a HF
    refine wl_storeF rfl rfl rfl (HF.ev rfl) (HF.ev rfl) (by kernel_rfl) HS.out 2 rfl rfl rfl ?_; clear HS; intro w19 HS; replace HS := Bx.mk HS
    have HS : Bx (St w0 (rdA rb ab n cb (B + 1 + 100 + 1 + 1 + 1 + 1) :: rowA encI 1 3 (.slice (some ⟨b12, 0, none⟩) 2 2) ([(0 : Int), (17 : Int)]) :: boxA b6 8 42 (.agg #[.int .i64 ((1 : Int) + (dn2 : Int)), .int .i64 dp3.fAt, .int .i64 dp3.fBirth, .int .i64 dp3.fSize, .int .i64 dp3.fSum, .int .i64 dp3.fLevel, .int .i64 (dn4 : Int), .int .i64 (([(0 : Int), (17 : Int)]).getD dn13 0)]) :: boxA b1 8 42 (rZ) :: F) _) := HS
    refine wpList_nil ?_
    refine ex_block ?_
    refine ex_then ?_
    refine wp_sr ?_
    refine wl_y rfl HF rfl rfl (yl_loadR (cs := [.int .i64 ((1 : Int) + (dn2 : Int)), .int .i64 dp3.fAt, .int .i64 dp3.fBirth, .int .i64 dp3.fSize, .int .i64 dp3.fSum, .int .i64 dp3.fLevel, .int .i64 (dn4 : Int), .int .i64 (([(0 : Int), (17 : Int)]).getD dn13 0)]) rfl (HF.ev rfl) ((HS.out.box 2 rfl).sub 0 8) (by kernel_rfl)) ?_;clear HF a;intro a HF
    refine wl_storeBox rfl HF rfl rfl (HF.ev rfl) (HF.ev rfl) HS.out 3 rfl (cells_lit [.int .i64 ((1 : Int) + (dn2 : Int)), .int .i64 dp3.fAt, .int .i64 dp3.fBirth, .int .i64 dp3.fSize, .int .i64 dp3.fSum, .int .i64 dp3.fLevel, .int .i64 (dn4 : Int), .int .i64 (([(0 : Int), (17 : Int)]).getD dn13 0)] rfl rfl) (by kernel_rfl) ?_; clear HS; intro w20 HS; replace HS := Bx.mk HS
    have HS : Bx (St w0 (rdA rb ab n cb (B + 1 + 100 + 1 + 1 + 1 + 1) :: rowA encI 1 3 (.slice (some ⟨b12, 0, none⟩) 2 2) ([(0 : Int), (17 : Int)]) :: boxA b6 8 42 (.agg #[.int .i64 ((1 : Int) + (dn2 : Int)), .int .i64 dp3.fAt, .int .i64 dp3.fBirth, .int .i64 dp3.fSize, .int .i64 dp3.fSum, .int .i64 dp3.fLevel, .int .i64 (dn4 : Int), .int .i64 (([(0 : Int), (17 : Int)]).getD dn13 0)]) :: boxA b1 8 42 (.agg #[.int .i64 ((1 : Int) + (dn2 : Int)), .int .i64 dp3.fAt, .int .i64 dp3.fBirth, .int .i64 dp3.fSize, .int .i64 dp3.fSum, .int .i64 dp3.fLevel, .int .i64 (dn4 : Int), .int .i64 (([(0 : Int), (17 : Int)]).getD dn13 0)]) :: F) _) := HS
    refine wl_ne ?_
    refine wp_ret ?_
    refine bp_ret1 HF Tryz.results50 (HF.resBox rfl (HS.out.box 3 rfl) (by kernel_rfl)) ?_
    replace HS:=Bx.mk (HS.out.pick 0 rfl)
    replace HS : Bx (St w0 (rdA rb ab n cb (B + 120) :: rowA encI 1 3 (.slice (some ⟨b12, 0, none⟩) 2 2) ([(0 : Int), (17 : Int)]) :: boxA b6 8 42 (.agg #[.int .i64 ((1 : Int) + (dn2 : Int)), .int .i64 dp3.fAt, .int .i64 dp3.fBirth, .int .i64 dp3.fSize, .int .i64 dp3.fSum, .int .i64 dp3.fLevel, .int .i64 (dn4 : Int), .int .i64 (([(0 : Int), (17 : Int)]).getD dn13 0)]) :: boxA b1 8 42 (.agg #[.int .i64 ((1 : Int) + (dn2 : Int)), .int .i64 dp3.fAt, .int .i64 dp3.fBirth, .int .i64 dp3.fSize, .int .i64 dp3.fSum, .int .i64 dp3.fLevel, .int .i64 (dn4 : Int), .int .i64 (([(0 : Int), (17 : Int)]).getD dn13 0)]) :: F) _) := ⟨HS.out.rdLe (by omega)⟩
    exact ⟨⟨(1 : Int) + (dn2 : Int), ⟨⟨dp3.fAt, dp3.fBirth, dp3.fSize, dp3.fSum, dp3.fLevel⟩, (dn4 : Int), (([(0 : Int), (17 : Int)]).getD dn13 0)⟩⟩, by show (0 : Int) ≤ (1 : Int) + (dn2 : Int); omega, by show (1 : Int) + (dn2 : Int) ≤ (1000 : Int); omega, rfl, (((HS.out.erase 3).erase 2).erase 1)⟩
   ·clear HF; have HF := HF1; clear HF1
    have dcc3 := ne_of_beq_false cc3
    refine wc_false HF rfl ?_
    refine wp_skip ?_
    refine ex_block ?_
    refine ex_then ?_
    refine wp_sr ?_
    refine wl_y rfl HF rfl rfl (yl_loadR (cs := [.int .i64 ((1 : Int) + (dn2 : Int)), .int .i64 dp3.fAt, .int .i64 dp3.fBirth, .int .i64 dp3.fSize, .int .i64 dp3.fSum, .int .i64 dp3.fLevel, .int .i64 (dn4 : Int), .int .i64 ((1 : Int) + (dn5 : Int))]) rfl (HF.ev rfl) ((HS.out.box 1 rfl).sub 0 8) (by kernel_rfl)) ?_;clear HF a;intro a HF
    refine wl_storeBox rfl HF rfl rfl (HF.ev rfl) (HF.ev rfl) HS.out 2 rfl (cells_lit [.int .i64 ((1 : Int) + (dn2 : Int)), .int .i64 dp3.fAt, .int .i64 dp3.fBirth, .int .i64 dp3.fSize, .int .i64 dp3.fSum, .int .i64 dp3.fLevel, .int .i64 (dn4 : Int), .int .i64 ((1 : Int) + (dn5 : Int))] rfl rfl) (by kernel_rfl) ?_; clear HS; intro w21 HS; replace HS := Bx.mk HS
    have HS : Bx (St w0 (rdA rb ab n cb (B + 1 + 100 + 1 + 1 + 1) :: boxA b6 8 42 (.agg #[.int .i64 ((1 : Int) + (dn2 : Int)), .int .i64 dp3.fAt, .int .i64 dp3.fBirth, .int .i64 dp3.fSize, .int .i64 dp3.fSum, .int .i64 dp3.fLevel, .int .i64 (dn4 : Int), .int .i64 ((1 : Int) + (dn5 : Int))]) :: boxA b1 8 42 (.agg #[.int .i64 ((1 : Int) + (dn2 : Int)), .int .i64 dp3.fAt, .int .i64 dp3.fBirth, .int .i64 dp3.fSize, .int .i64 dp3.fSum, .int .i64 dp3.fLevel, .int .i64 (dn4 : Int), .int .i64 ((1 : Int) + (dn5 : Int))]) :: F) _) := HS
    refine wl_ne ?_
    refine wp_ret ?_
    refine bp_ret1 HF Tryz.results50 (HF.resBox rfl (HS.out.box 2 rfl) (by kernel_rfl)) ?_
    replace HS:=Bx.mk (HS.out.pick 0 rfl)
    replace HS : Bx (St w0 (rdA rb ab n cb (B + 120) :: boxA b6 8 42 (.agg #[.int .i64 ((1 : Int) + (dn2 : Int)), .int .i64 dp3.fAt, .int .i64 dp3.fBirth, .int .i64 dp3.fSize, .int .i64 dp3.fSum, .int .i64 dp3.fLevel, .int .i64 (dn4 : Int), .int .i64 ((1 : Int) + (dn5 : Int))]) :: boxA b1 8 42 (.agg #[.int .i64 ((1 : Int) + (dn2 : Int)), .int .i64 dp3.fAt, .int .i64 dp3.fBirth, .int .i64 dp3.fSize, .int .i64 dp3.fSum, .int .i64 dp3.fLevel, .int .i64 (dn4 : Int), .int .i64 ((1 : Int) + (dn5 : Int))]) :: F) _) := ⟨HS.out.rdLe (by omega)⟩
    exact ⟨⟨(1 : Int) + (dn2 : Int), ⟨⟨dp3.fAt, dp3.fBirth, dp3.fSize, dp3.fSum, dp3.fLevel⟩, (dn4 : Int), (1 : Int) + (dn5 : Int)⟩⟩, by show (0 : Int) ≤ (1 : Int) + (dn2 : Int); omega, by show (1 : Int) + (dn2 : Int) ≤ (1000 : Int); omega, rfl, ((HS.out.erase 2).erase 1)⟩

theorem l91Spoil_any (w0 w : World) (rb : Nat) (ab : Option Addr) (n cb : Nat) (bs : List UInt8) (hn : n ≤ 2000) (hR : Rd encB 1 w0 ab n bs) (B : Nat) (hB : B ≤ 700000) (s : ByteArray) (hs : s.size ≤ 100000) (F : List Asr) (hS : St w0 (rdA rb ab n cb B :: F) w) : Calls Tryz.prog 96 #[.pointer (some ⟨rb, 0, none⟩), .string s] w fun e w' => ∃ t : ByteArray, e = .returned (.string t) ∧ t.size ≤ s.size + 4 ∧ St w0 (rdA rb ab n cb (B + 20) :: F) w' := by
 have HS := Bx.mk hS; clear hS
 refine wc_enter Tryz.func96 rfl Tryz.ntmps96 [(0, .pointer (some ⟨rb, 0, none⟩)), (1, .string s)] ⟨rfl, rfl, trivial⟩ rfl ?_; intro a HF
 refine wp_sr ?_
 refine wl_as HF rfl rfl rfl rfl rfl ?_;clear HF a;intro a HF
 refine wl_ne ?_
 refine wp_seq ?_
 refine wp_sr ?_
 refine wl_mv HF rfl rfl rfl rfl rfl ?_;clear HF a;intro a HF
 refine wl_y rfl HF rfl rfl (yl_eqlS rfl (HF.ev rfl) (HF.ev rfl)) ?_;clear HF a;intro a HF
 refine wl_ne ?_
 refine HF.cases 7 rfl (fun cc1 HF1 => ?_) (fun cc1 HF1 => ?_)
 ·clear HF; have HF := HF1; clear HF1
  refine wc_true HF rfl ?_
  refine wp_sr ?_
  refine wl_mv HF rfl rfl rfl rfl rfl ?_;clear HF a;intro a HF
  replace HS:=Bx.mk (HS.out.pick 0 rfl)
  refine wl_call rfl HF rfl (enter_of Tryz.func138 (by kernel_rfl) rfl) (args := #[.pointer (some ⟨rb, 0, none⟩), .int .i64 4]) rfl (l91Text_any w0 _ rb ab n cb bs hn hR B (by omega) 4 (by omega) _ HS.out) rfl rfl ?_
  rintro _ w1 ⟨dt1, rfl, ht1, hs1⟩
  refine ⟨_, rfl, ?_⟩; replace HS := Bx.mk hs1; clear hs1 HF; clear a; intro a HF
  replace HS : Bx (St w0 (rdA rb ab n cb (B + (2 + 2 * 4)) :: F) _) := ⟨HS.out⟩
  refine wl_as HF rfl rfl rfl rfl rfl ?_;clear HF a;intro a HF
  refine wl_ne ?_
  refine wp_ret ?_
  refine ex_then_ret ?_
  refine bp_ret1 HF Tryz.results96 (HF.res rfl) ?_
  replace HS:=Bx.mk (HS.out.pick 0 rfl)
  replace HS : Bx (St w0 (rdA rb ab n cb (B + 20) :: F) _) := ⟨HS.out.rdLe (by omega)⟩
  exact ⟨_, rfl, (by omega), HS.out⟩
 ·clear HF; have HF := HF1; clear HF1
  have hsp := size_pos (s := s) (by simpa using cc1)
  refine wc_false HF rfl ?_
  refine wp_skip ?_
  refine ex_then ?_
  refine wp_sr ?_
  refine wl_mv HF rfl rfl rfl rfl rfl ?_;clear HF a;intro a HF
  refine wl_mv HF rfl rfl rfl rfl rfl ?_;clear HF a;intro a HF
  refine wl_y rfl HF rfl rfl (yl_lenS rfl (HF.ev rfl) (by kernel_rfl)) ?_;clear HF a;intro a HF
  replace HS:=Bx.mk (HS.out.pick 0 rfl)
  refine wl_call rfl HF rfl (enter_of Tryz.func94 (by kernel_rfl) rfl) (args := #[.pointer (some ⟨rb, 0, none⟩), .int .i64 (s.size : Int)]) rfl (pickN w0 _ rb ab n cb bs hn hR B (by omega) (s.size : Int) (by omega) _ HS.out) rfl rfl ?_
  rintro _ w2 ⟨dn2, rfl, hu2, hs1⟩
  refine ⟨_, rfl, ?_⟩; replace HS := Bx.mk hs1; clear hs1 HF; clear a; intro a HF
  replace HS : Bx (St w0 (rdA rb ab n cb (B + 1) :: F) _) := ⟨HS.out⟩
  refine wl_as HF rfl rfl rfl rfl rfl ?_;clear HF a;intro a HF
  refine wl_ne ?_
  refine wp_seq ?_
  refine wp_sr ?_
  refine wl_mv HF rfl rfl rfl rfl rfl ?_;clear HF a;intro a HF
  replace HS:=Bx.mk (HS.out.pick 0 rfl)
  refine wl_call rfl HF rfl (enter_of Tryz.func94 (by kernel_rfl) rfl) (args := #[.pointer (some ⟨rb, 0, none⟩), .int .i64 4]) rfl (pickN w0 _ rb ab n cb bs hn hR (B + 1) (by omega) 4 (by omega) _ HS.out) rfl rfl ?_
  rintro _ w3 ⟨dn3, rfl, hu3, hs1⟩
  refine ⟨_, rfl, ?_⟩; replace HS := Bx.mk hs1; clear hs1 HF; clear a; intro a HF
  replace HS : Bx (St w0 (rdA rb ab n cb (B + 1 + 1) :: F) _) := ⟨HS.out⟩
  refine wl_ne ?_
  refine wp_block ?_
  refine wp_sr ?_
  refine wl_y rfl HF rfl rfl (yl_eqlI rfl (HF.ev rfl) (HF.ev rfl)) ?_;clear HF a;intro a HF
  refine wl_as HF rfl rfl rfl rfl rfl ?_;clear HF a;intro a HF
  refine wl_ne ?_
  refine HF.cases 16 rfl (fun cc2 HF1 => ?_) (fun cc2 HF1 => ?_)
  ·clear HF; have HF := HF1; clear HF1
   have dcc2 := eq_of_beq cc2
   refine wc_true HF rfl ?_
   refine wp_seq ?_
   refine wr_quiet (by kernel_rfl) (by kernel_rfl) HS.out ?_
   refine wq_y rfl HF rfl rfl (fun _ HS => (yl_move rfl (HF.ev rfl))) ?_;clear HF a;intro a HF
   refine wq_y rfl HF rfl rfl (fun _ HS => (yl_move rfl (HF.ev rfl))) ?_;clear HF a;intro a HF
   refine wq_y rfl HF rfl rfl (fun _ HS => (yl_sliceSh (k := dn2) rfl (HF.ev rfl) (HF.ev rfl) (by kernel_rfl) (by omega) (by omega))) ?_;clear HF a;intro a HF
   refine wq_y rfl HF rfl rfl (fun _ HS => (yl_move rfl (HF.ev rfl))) ?_;clear HF a;intro a HF
   refine wq_y rfl HF rfl rfl (fun _ HS => (yl_move rfl (HF.ev rfl))) ?_;clear HF a;intro a HF
   refine wq_y rfl HF rfl rfl (fun _ HS => (yl_addI rfl (HF.ev rfl) (HF.ev rfl) (i64w (by omega)))) ?_;clear HF a;intro a HF
   refine wq_y rfl HF rfl rfl (fun _ HS => (yl_sliceSl (k := dn2 + 1) rfl (HF.ev rfl) (HF.ev rfl) (by kernel_rfl) (by omega) (by omega))) ?_;clear HF a;intro a HF
   refine wq_y rfl HF rfl rfl (fun _ HS => (yl_addS rfl (HF.ev rfl) (HF.ev rfl) (by (try simp only [ByteArray.size_append, ByteArray.size_extract, size1]); omega))) ?_;clear HF a;intro a HF
   refine wq_y rfl HF rfl rfl (fun _ HS => (yl_assign rfl (HF.ev rfl))) ?_;clear HF a;intro a HF
   refine wpQuiet_nil ?_; intro w4 HS; replace HS := Bx.mk HS
   refine ex_then ?_
   refine wp_ret ?_
   refine ex_block_ret ?_
   refine ex_then_ret ?_
   refine bp_ret1 HF Tryz.results96 (HF.res rfl) ?_
   replace HS:=Bx.mk (HS.out.pick 0 rfl)
   replace HS : Bx (St w0 (rdA rb ab n cb (B + 20) :: F) _) := ⟨HS.out.rdLe (by omega)⟩
   exact ⟨_, rfl, (by rw [ByteArray.size_append]; (try simp only [ByteArray.size_append, ByteArray.size_extract, size1]); omega), HS.out⟩
  ·clear HF; have HF := HF1; clear HF1
   have dcc2 := ne_of_beq_false cc2
   refine wc_false HF rfl ?_
   refine wp_sr ?_
   refine wl_y rfl HF rfl rfl (yl_eqlI rfl (HF.ev rfl) (HF.ev rfl)) ?_;clear HF a;intro a HF
   refine wl_as HF rfl rfl rfl rfl rfl ?_;clear HF a;intro a HF
   refine wl_ne ?_
   refine HF.cases 26 rfl (fun cc3 HF1 => ?_) (fun cc3 HF1 => ?_)
   ·clear HF; have HF := HF1; clear HF1
    have dcc3 := eq_of_beq cc3
    refine wc_true HF rfl ?_
    refine wp_sr ?_
    refine wl_mv HF rfl rfl rfl rfl rfl ?_;clear HF a;intro a HF
    refine wl_mv HF rfl rfl rfl rfl rfl ?_;clear HF a;intro a HF
    refine wl_y rfl HF rfl rfl (yl_sliceSh (k := dn2) rfl (HF.ev rfl) (HF.ev rfl) (by kernel_rfl) (by omega) (by omega)) ?_;clear HF a;intro a HF
    refine wl_as HF rfl rfl rfl rfl rfl ?_;clear HF a;intro a HF
    refine wl_ne ?_
    refine wp_ret ?_
    refine ex_block_ret ?_
    refine ex_then_ret ?_
    refine bp_ret1 HF Tryz.results96 (HF.res rfl) ?_
    replace HS:=Bx.mk (HS.out.pick 0 rfl)
    replace HS : Bx (St w0 (rdA rb ab n cb (B + 20) :: F) _) := ⟨HS.out.rdLe (by omega)⟩
    exact ⟨_, rfl, (by rw [ByteArray.size_extract]; (try simp only [ByteArray.size_append, ByteArray.size_extract, size1]); omega), HS.out⟩
   ·clear HF; have HF := HF1; clear HF1
    have dcc3 := ne_of_beq_false cc3
    refine wc_false HF rfl ?_
    refine wp_sr ?_
    refine wl_y rfl HF rfl rfl (yl_eqlI rfl (HF.ev rfl) (HF.ev rfl)) ?_;clear HF a;intro a HF
    refine wl_as HF rfl rfl rfl rfl rfl ?_;clear HF a;intro a HF
    refine wl_ne ?_
    refine HF.cases 31 rfl (fun cc4 HF1 => ?_) (fun cc4 HF1 => ?_)
    ·clear HF; have HF := HF1; clear HF1
     have dcc4 := eq_of_beq cc4
     refine wc_true HF rfl ?_
     refine wp_seq ?_
     refine wr_heldS (s := F) (by kernel_rfl) (St.drew ((HS.out.erase 0))) ?_
     have HS2 := Bx.mk HS.out.drew; replace HS := Bx.mk (show St w0 (F) _ from (HS.out.drew.erase 0))
     generalize World.drew _ = w5 at HS HS2 ⊢
     refine wh_y 0 rfl (by kernel_rfl) (by kernel_rfl) (by kernel_rfl) (fun _ _ _ h => h) rfl HF rfl rfl (fun _ HS => (yl_move rfl (HF.ev rfl))) HS.out ?_;clear HF a;intro a HF
     refine wh_y 1 rfl (by kernel_rfl) (by kernel_rfl) (by kernel_rfl) (fun _ _ _ h => h) rfl HF rfl rfl (fun _ HS => (yl_move rfl (HF.ev rfl))) HS.out ?_;clear HF a;intro a HF
     refine wh_y 2 rfl (by kernel_rfl) (by kernel_rfl) (by kernel_rfl) (fun _ _ _ h => h) rfl HF rfl rfl (fun _ HS => (yl_sliceSh (k := dn2) rfl (HF.ev rfl) (HF.ev rfl) (by kernel_rfl) (by omega) (by omega))) HS.out ?_;clear HF a;intro a HF
     refine wh_y 3 rfl (by kernel_rfl) (by kernel_rfl) (by kernel_rfl) (fun _ _ _ h => h) rfl HF rfl rfl (fun _ HS => (yl_move rfl (HF.ev rfl))) HS.out ?_;clear HF a;intro a HF
     refine wh_y 9 rfl (by kernel_rfl) (by kernel_rfl) (by kernel_rfl) (fun _ _ _ h => h) rfl HF rfl rfl (fun _ HS => (yl_move rfl (HF.ev rfl))) HS.out ?_;clear HF a;intro a HF
     refine wh_y 10 rfl (by kernel_rfl) (by kernel_rfl) (by kernel_rfl) (fun _ _ _ h => h) rfl HF rfl rfl (fun _ HS => (yl_move rfl (HF.ev rfl))) HS.out ?_;clear HF a;intro a HF
     refine wh_y 11 rfl (by kernel_rfl) (by kernel_rfl) (by kernel_rfl) (fun _ _ _ h => h) rfl HF rfl rfl (fun _ HS => (yl_addI rfl (HF.ev rfl) (HF.ev rfl) (i64w (by omega)))) HS.out ?_;clear HF a;intro a HF
     refine wh_y 12 rfl (by kernel_rfl) (by kernel_rfl) (by kernel_rfl) (fun _ _ _ h => h) rfl HF rfl rfl (fun _ HS => (yl_sliceSl (k := dn2 + 1) rfl (HF.ev rfl) (HF.ev rfl) (by kernel_rfl) (by omega) (by omega))) HS.out ?_;clear HF a;intro a HF
     refine wh_one 4 (by kernel_rfl) ?_
     replace HS2:=Bx.mk (HS2.out.pick 0 rfl)
     refine wo_call rfl rfl HF rfl (enter_of Tryz.func94 (by kernel_rfl) rfl) (args := #[.pointer (some ⟨rb, 0, none⟩), .int .i64 256]) rfl (pickN w0 _ rb ab n cb bs hn hR (B + 1 + 1) (by omega) 256 (by omega) _ HS2.out) rfl rfl ?_
     rintro _ w7 ⟨dn4, rfl, hu4, hs1⟩
     refine ⟨_, rfl, ?_⟩; replace HS2 := Bx.mk hs1; clear hs1 HF; clear a; intro a HF
     replace HS2 : Bx (St w0 (rdA rb ab n cb (B + 1 + 1 + 1) :: F) _) := ⟨HS2.out⟩
     clear HS; have HS : Bx (St w0 (F) _) := ⟨(HS2.out.erase 0)⟩; refine ⟨HS.out, ?_⟩
     refine wh_y 5 rfl (by kernel_rfl) (by kernel_rfl) (by kernel_rfl) (fun _ _ _ h => h) rfl HF rfl rfl (fun _ HS => (yl_toU8 (b := UInt8.ofNat (dn4 : Int).toNat) rfl (HF.ev rfl) (by omega) rfl (by kernel_rfl) (by kernel_rfl))) HS.out ?_;clear HF a;intro a HF
     refine wh_one 6 (by kernel_rfl) ?_
     refine wo_buildS (enc := encB) (e := 5) (size := 1) rfl rfl HF rfl rfl rfl (ps := [(0, .int .u8 ((UInt8.ofNat (dn4 : Int).toNat).toNat : Int))]) rfl (cells := [.int .u8 ((UInt8.ofNat (dn4 : Int).toNat).toNat : Int)]) (by kernel_rfl) [(UInt8.ofNat (dn4 : Int).toNat)] rfl rfl (by unfold maxLen; omega) rfl HS2.out HS.out ?_; clear HF HS HS2 a; intro b5 a w9 HF HS2 HS; replace HS := Bx.mk HS; replace HS2 := Bx.mk HS2; refine ⟨HS.out, ?_⟩
     refine wh_one 7 (by kernel_rfl) ?_
     refine wo_y rfl rfl HF rfl rfl (yl_convBS (e1 := 5) rfl (HF.ev rfl) (by kernel_rfl) (by kernel_rfl) (by kernel_rfl) (xs := [(UInt8.ofNat (dn4 : Int).toNat)]) (St.rdN HS2.out encB_len 0 rfl)) ?_;clear HF a;intro a HF; refine ⟨HS.out, ?_⟩
     refine wh_y 8 rfl (by kernel_rfl) (by kernel_rfl) (by kernel_rfl) (fun _ _ _ h => h) rfl HF rfl rfl (fun _ HS => (yl_addS rfl (HF.ev rfl) (HF.ev rfl) (by (try simp only [ByteArray.size_append, ByteArray.size_extract, size1]); omega))) HS.out ?_;clear HF a;intro a HF
     refine wh_y 13 rfl (by kernel_rfl) (by kernel_rfl) (by kernel_rfl) (fun _ _ _ h => h) rfl HF rfl rfl (fun _ HS => (yl_addS rfl (HF.ev rfl) (HF.ev rfl) (by (try simp only [ByteArray.size_append, ByteArray.size_extract, size1]); omega))) HS.out ?_;clear HF a;intro a HF
     refine wh_y 14 rfl (by kernel_rfl) (by kernel_rfl) (by kernel_rfl) (fun _ _ _ h => h) rfl HF rfl rfl (fun _ HS => (yl_assign rfl (HF.ev rfl))) HS.out ?_;clear HF a;intro a HF
     refine wh_done (by kernel_rfl) ?_
     replace HS := HS2; clear HS2
     refine ex_then ?_
     refine wp_ret ?_
     refine ex_block_ret ?_
     refine ex_then_ret ?_
     refine bp_ret1 HF Tryz.results96 (HF.res rfl) ?_
     replace HS:=Bx.mk (HS.out.pick 1 rfl)
     replace HS : Bx (St w0 (rdA rb ab n cb (B + 20) :: rowA encB 1 5 (.slice (some ⟨b5, 0, none⟩) 1 1) ([(UInt8.ofNat (dn4 : Int).toNat)]) :: F) _) := ⟨HS.out.rdLe (by omega)⟩
     exact ⟨_, rfl, (by rw [ByteArray.size_append]; (try simp only [ByteArray.size_append, ByteArray.size_extract, size1]); omega), (HS.out.erase 1)⟩
    ·clear HF; have HF := HF1; clear HF1
     have dcc4 := ne_of_beq_false cc4
     refine wc_false HF rfl ?_
     refine wp_skip ?_
     refine ex_block ?_
     refine ex_then ?_
     refine wp_seq ?_
     have hl6 : ∀ k, ([(⟨#[48]⟩ : ByteArray), (⟨#[58]⟩ : ByteArray), (⟨#[46]⟩ : ByteArray), (⟨#[45]⟩ : ByteArray), (⟨#[59]⟩ : ByteArray), (⟨#[32]⟩ : ByteArray)].getD k ByteArray.empty).size ≤ 1 := getD_le (by decide)
     refine wp_region_lit ?_
     refine wl_mv HF rfl rfl rfl rfl rfl ?_;clear HF a;intro a HF
     refine wl_buildS (enc := encS) (e := 9) (size := 1) rfl HF rfl rfl rfl (ps := [(0, .string (⟨#[48]⟩ : ByteArray)), (1, .string (⟨#[58]⟩ : ByteArray)), (2, .string (⟨#[46]⟩ : ByteArray)), (3, .string (⟨#[45]⟩ : ByteArray)), (4, .string (⟨#[59]⟩ : ByteArray)), (5, .string (⟨#[32]⟩ : ByteArray))]) rfl (cells := [.string (⟨#[48]⟩ : ByteArray), .string (⟨#[58]⟩ : ByteArray), .string (⟨#[46]⟩ : ByteArray), .string (⟨#[45]⟩ : ByteArray), .string (⟨#[59]⟩ : ByteArray), .string (⟨#[32]⟩ : ByteArray)]) (by kernel_rfl) [(⟨#[48]⟩ : ByteArray), (⟨#[58]⟩ : ByteArray), (⟨#[46]⟩ : ByteArray), (⟨#[45]⟩ : ByteArray), (⟨#[59]⟩ : ByteArray), (⟨#[32]⟩ : ByteArray)] rfl rfl (by unfold maxLen; omega) rfl HS.out ?_; clear HF HS a; intro b6 a w11 HF HS; replace HS := Bx.mk HS
     refine wl_mv HF rfl rfl rfl rfl rfl ?_;clear HF a;intro a HF
     replace HS:=Bx.mk (HS.out.pick 1 rfl)
     refine wl_call rfl HF rfl (enter_of Tryz.func94 (by kernel_rfl) rfl) (args := #[.pointer (some ⟨rb, 0, none⟩), .int .i64 6]) rfl (pickN w0 _ rb ab n cb bs hn hR (B + 1 + 1) (by omega) 6 (by omega) _ HS.out) rfl rfl ?_
     rintro _ w12 ⟨dn7, rfl, hu7, hs1⟩
     refine ⟨_, rfl, ?_⟩; replace HS := Bx.mk hs1; clear hs1 HF; clear a; intro a HF
     replace HS : Bx (St w0 (rdA rb ab n cb (B + 1 + 1 + 1) :: rowA encS 1 9 (.slice (some ⟨b6, 0, none⟩) 6 6) ([(⟨#[48]⟩ : ByteArray), (⟨#[58]⟩ : ByteArray), (⟨#[46]⟩ : ByteArray), (⟨#[45]⟩ : ByteArray), (⟨#[59]⟩ : ByteArray), (⟨#[32]⟩ : ByteArray)]) :: F) _) := ⟨HS.out⟩
     refine wl_y rfl HF rfl rfl (yl_indexAddr (e := 9) (i := dn7) (size := 1) rfl (HF.ev rfl) (HF.ev rfl) (by kernel_rfl) rfl (by omega)) ?_;clear HF a;intro a HF
     refine wl_y rfl HF rfl rfl (yl_load (v := .string (([(⟨#[48]⟩ : ByteArray), (⟨#[58]⟩ : ByteArray), (⟨#[46]⟩ : ByteArray), (⟨#[45]⟩ : ByteArray), (⟨#[59]⟩ : ByteArray), (⟨#[32]⟩ : ByteArray)]).getD dn7 ByteArray.empty)) rfl (HF.ev rfl) (HS.out.elem1 encS_len 1 rfl (get_getD (xs := [(⟨#[48]⟩ : ByteArray), (⟨#[58]⟩ : ByteArray), (⟨#[46]⟩ : ByteArray), (⟨#[45]⟩ : ByteArray), (⟨#[59]⟩ : ByteArray), (⟨#[32]⟩ : ByteArray)]) (j := dn7) (d := ByteArray.empty) (by (try simp only [List.length_cons, List.length_nil]); omega)) rfl) (by kernel_rfl)) ?_;clear HF a;intro a HF
     refine wl_y rfl HF rfl rfl (yl_addS rfl (HF.ev rfl) (HF.ev rfl) (by have := hl6 dn7; (try simp only [ByteArray.size_append, ByteArray.size_extract, size1]); omega)) ?_;clear HF a;intro a HF
     refine wl_as HF rfl rfl rfl rfl rfl ?_;clear HF a;intro a HF
     refine wl_ne ?_
     refine wp_ret ?_
     refine bp_ret1 HF Tryz.results96 (HF.res rfl) ?_
     replace HS:=Bx.mk (HS.out.pick 0 rfl)
     replace HS : Bx (St w0 (rdA rb ab n cb (B + 20) :: rowA encS 1 9 (.slice (some ⟨b6, 0, none⟩) 6 6) ([(⟨#[48]⟩ : ByteArray), (⟨#[58]⟩ : ByteArray), (⟨#[46]⟩ : ByteArray), (⟨#[45]⟩ : ByteArray), (⟨#[59]⟩ : ByteArray), (⟨#[32]⟩ : ByteArray)]) :: F) _) := ⟨HS.out.rdLe (by omega)⟩
     exact ⟨_, rfl, (by have h7 := hl6 dn7; rw [ByteArray.size_append]; (try simp only [ByteArray.size_append, ByteArray.size_extract, size1]); omega), (HS.out.erase 1)⟩

end Go.Proofs.YtoaopmkbfifhaaaGreatDoor
