/- A part of the proof in YtoaopmkbfifhaaaGreatDoorIwLZ29. -/
import Derived.Test.YtoaopmkbfifhaaaGreatDoorIwLZ24
/- Drawing intents, disks with intents. -/
namespace Go.Proofs.YtoaopmkbfifhaaaGreatDoor
set_option linter.unusedVariables false
set_option linter.unusedSimpArgs false
set_option maxHeartbeats 1000000
set_option maxRecDepth 100000
open Go.RowKit

abbrev lit9 : List ByteArray := [(⟨#[109, 97, 105, 110]⟩ : ByteArray), (⟨#[109, 97, 105, 110]⟩ : ByteArray), (⟨#[109, 97, 105, 110]⟩ : ByteArray), (⟨#[99]⟩ : ByteArray), (⟨#[98]⟩ : ByteArray)]
theorem l93Head_any (w0 w : World) (rb : Nat) (ab : Option Addr) (n cb : Nat) (bs : List UInt8) (hn : n ≤ 2000) (hR : Rd encB 1 w0 ab n bs) (B : Nat) (hB : B ≤ 800000) (F : List Asr) (hS : St w0 (rdA rb ab n cb B :: F) w) : Calls Tryz.prog 103 #[.pointer (some ⟨rb, 0, none⟩)] w fun e w' => ∃ t : ByteArray, e = .returned (.string t) ∧ t.size ≤ 8 ∧ St w0 (rdA rb ab n cb (B + 4) :: F) w' := by
 have HS := Bx.mk hS; clear hS
 refine wc_enter Tryz.func103 rfl Tryz.ntmps103 [(0, .pointer (some ⟨rb, 0, none⟩))] ⟨rfl, trivial⟩ rfl ?_; intro a HF
 refine wp_sr ?_
 refine za HF ?_;clear HF a;intro a HF
 refine wl_ne ?_
 refine wp_seq ?_
 refine wp_sr ?_
 refine zm HF ?_;clear HF a;intro a HF
 replace HS:=Bx.mk (HS.out.pick 0 rfl)
 refine wl_call rfl HF rfl (enter_of Tryz.func94 (by kernel_rfl) rfl) (args := #[.pointer (some ⟨rb, 0, none⟩), .int .i64 14]) rfl (pickN w0 _ rb ab n cb bs hn hR B (by omega) 14 (by omega) _ HS.out) rfl rfl ?_
 rintro _ w1 ⟨dn1, rfl, hu1, hs1⟩
 refine ⟨_, rfl, ?_⟩; replace HS := Bx.mk hs1;clear hs1 HF a;intro a HF
 try dsimp only [List.eraseIdx] at HS
 refine zy HF (yl_eqlI rfl (HF.ev rfl) (HF.ev rfl)) ?_;clear HF a;intro a HF
 refine wl_ne ?_
 refine HF.cases 5 rfl (fun cc1 _ => ?_) fun cc1 _ => ?_
 ·clear HF;rename_i HF
  have dcc1 := eq_of_beq cc1
  refine wc_true HF rfl ?_
  refine wp_sr ?_
  refine zm HF ?_;clear HF a;intro a HF
  replace HS:=Bx.mk (HS.out.pick 0 rfl)
  refine wl_call rfl HF rfl (enter_of Tryz.func146 (by kernel_rfl) rfl) (args := #[.pointer (some ⟨rb, 0, none⟩)]) rfl (l92Name_any w0 _ rb ab n cb bs hn hR (B + 1) (by omega) _ HS.out) rfl rfl ?_
  rintro _ w2 ⟨dt2, rfl, ht2, hs1⟩
  refine ⟨_, rfl, ?_⟩; replace HS := Bx.mk hs1;clear hs1 HF a;intro a HF
  try dsimp only [List.eraseIdx] at HS
  refine za HF ?_;clear HF a;intro a HF
  refine wl_ne ?_
  refine wp_ret ?_
  refine ex_then_ret ?_
  refine bp_ret1 HF Tryz.results103 (HF.res rfl) ?_
  replace HS:=Bx.mk (HS.out.pick 0 rfl)
  replace HS : Bx (St w0 (rdA rb ab n cb (B + 4) :: F) _) := ⟨HS.out.rdLe (by omega)⟩
  exact ⟨_, rfl, (by first | exact getD_le (by decide) _ | decide | omega), HS.out⟩
 ·clear HF;rename_i HF
  have dcc1 := ne_of_beq_false cc1
  refine wc_false HF rfl ?_
  refine wp_skip ?_
  refine ex_then ?_
  refine wp_sr ?_
  refine wl_buildS (enc := encS) (e := 9) (size := 1) rfl HF rfl rfl rfl (ps := [(0, .string (⟨#[109, 97, 105, 110]⟩ : ByteArray)), (1, .string (⟨#[109, 97, 105, 110]⟩ : ByteArray)), (2, .string (⟨#[109, 97, 105, 110]⟩ : ByteArray)), (3, .string (⟨#[99]⟩ : ByteArray)), (4, .string (⟨#[98]⟩ : ByteArray))]) rfl (cells := [.string (⟨#[109, 97, 105, 110]⟩ : ByteArray), .string (⟨#[109, 97, 105, 110]⟩ : ByteArray), .string (⟨#[109, 97, 105, 110]⟩ : ByteArray), .string (⟨#[99]⟩ : ByteArray), .string (⟨#[98]⟩ : ByteArray)]) (by kernel_rfl) lit9 rfl rfl (by unfold maxLen; omega) rfl HS.out ?_; clear HF HS a; intro b3 a w3 HF HS; replace HS := Bx.mk HS
  refine zm HF ?_;clear HF a;intro a HF
  replace HS:=Bx.mk (HS.out.pick 1 rfl)
  refine wl_call rfl HF rfl (enter_of Tryz.func94 (by kernel_rfl) rfl) (args := #[.pointer (some ⟨rb, 0, none⟩), .int .i64 5]) rfl (pickN w0 _ rb ab n cb bs hn hR (B + 1) (by omega) 5 (by omega) _ HS.out) rfl rfl ?_
  rintro _ w4 ⟨dn4, rfl, hu4, hs1⟩
  refine ⟨_, rfl, ?_⟩; replace HS := Bx.mk hs1;clear hs1 HF a;intro a HF
  try dsimp only [List.eraseIdx] at HS
  refine zy HF (yl_indexAddr (e := 9) (i := dn4) (size := 1) rfl (HF.ev rfl) (HF.ev rfl) (by kernel_rfl) rfl (by omega)) ?_;clear HF a;intro a HF
  refine zy HF (ylo (v := .string ((lit9).getD dn4 ByteArray.empty)) rfl (HF.ev rfl) (HS.out.elem1 encS_len 1 rfl (get_getD (xs := lit9) (j := dn4) (d := ByteArray.empty) (by (try simp only [List.length_cons, List.length_nil]); omega)) rfl)) ?_;clear HF a;intro a HF
  refine za HF ?_;clear HF a;intro a HF
  refine wl_ne ?_
  refine wp_ret ?_
  refine bp_ret1 HF Tryz.results103 (HF.res rfl) ?_
  replace HS:=Bx.mk (HS.out.pick 0 rfl)
  replace HS : Bx (St w0 (rdA rb ab n cb (B + 4) :: rowA encS 1 9 (.slice (some ⟨b3, 0, none⟩) 5 5) (lit9) :: F) _) := ⟨HS.out.rdLe (by omega)⟩
  exact ⟨_, rfl, (by first | exact getD_le (by decide) _ | decide | omega), (HS.out.erase 1)⟩

structure IntentD.tiny (x : IntentD) : Prop where
  h : x.fHead.size ≤ 8
  p : x.fOp.fPath.size ≤ 100
  t : x.fOp.fTo.size ≤ 100
  x : x.fOp.fText.size ≤ 100
theorem IntentD.tiny.fits {x : IntentD} (h : x.tiny) : x.fits := ⟨Nat.le_trans h.h (by decide), ⟨Nat.le_trans h.p (by decide), Nat.le_trans h.t (by decide), Nat.le_trans h.x (by decide)⟩⟩

set_option maxHeartbeats 4000000 in
theorem l93Intent_any (w0 w : World) (rb : Nat) (ab : Option Addr) (n cb : Nat) (bs : List UInt8) (hn : n ≤ 2000) (hR : Rd encB 1 w0 ab n bs) (B : Nat) (hB : B ≤ 700000) (F : List Asr) (hS : St w0 (rdA rb ab n cb B :: F) w) : Calls Tryz.prog 57 #[.pointer (some ⟨rb, 0, none⟩)] w fun e w' => ∃ x : IntentD, x.tiny ∧ e = .returned (.agg #[.int .i64 x.fTxg, .int .i64 x.fSeq, .string x.fHead, .int .i64 x.fOp.fKind, .string x.fOp.fPath, .string x.fOp.fTo, .int .i64 x.fOp.fAt, .string x.fOp.fText]) ∧ St w0 (rdA rb ab n cb (B + 140) :: F) w' := by
 have HS := Bx.mk hS; clear hS
 refine wc_enter Tryz.func57 rfl Tryz.ntmps57 [(0, .pointer (some ⟨rb, 0, none⟩))] ⟨rfl, trivial⟩ rfl ?_; intro a HF
 refine wp_sr ?_
 refine wl_alloc rfl HF rfl rfl rfl (Z := [.int .i64 0, .int .i64 0, .string ByteArray.empty, .int .i64 0, .string ByteArray.empty, .string ByteArray.empty, .int .i64 0, .string ByteArray.empty]) (by kernel_rfl) rfl HS.out ?_; clear HF HS a; intro a w1 b1 HF HS; replace HS := Bx.mk HS
 refine wl_ne ?_
 refine wp_sr ?_
 refine zm HF ?_;clear HF a;intro a HF
 replace HS:=Bx.mk (HS.out.pick 1 rfl)
 refine wl_call rfl HF rfl (enter_of Tryz.func94 (by kernel_rfl) rfl) (args := #[.pointer (some ⟨rb, 0, none⟩), .int .i64 5]) rfl (pickN w0 _ rb ab n cb bs hn hR B (by omega) 5 (by omega) _ HS.out) rfl rfl ?_
 rintro _ w2 ⟨dn2, rfl, hu2, hs1⟩
 refine ⟨_, rfl, ?_⟩; replace HS := Bx.mk hs1;clear hs1 HF a;intro a HF
 try dsimp only [List.eraseIdx] at HS
 refine zy HF (yl_addI rfl (HF.ev rfl) (HF.ev rfl) (i64w (by omega))) ?_;clear HF a;intro a HF
 refine zm HF ?_;clear HF a;intro a HF
 replace HS:=Bx.mk (HS.out.pick 0 rfl)
 refine wl_call rfl HF rfl (enter_of Tryz.func94 (by kernel_rfl) rfl) (args := #[.pointer (some ⟨rb, 0, none⟩), .int .i64 4]) rfl (pickN w0 _ rb ab n cb bs hn hR (B + 1) (by omega) 4 (by omega) _ HS.out) rfl rfl ?_
 rintro _ w3 ⟨dn3, rfl, hu3, hs1⟩
 refine ⟨_, rfl, ?_⟩; replace HS := Bx.mk hs1;clear hs1 HF a;intro a HF
 try dsimp only [List.eraseIdx] at HS
 refine zy HF (yl_addI rfl (HF.ev rfl) (HF.ev rfl) (i64w (by omega))) ?_;clear HF a;intro a HF
 refine zm HF ?_;clear HF a;intro a HF
 replace HS:=Bx.mk (HS.out.pick 0 rfl)
 refine wl_call rfl HF rfl (enter_of Tryz.func103 (by kernel_rfl) rfl) (args := #[.pointer (some ⟨rb, 0, none⟩)]) rfl (l93Head_any w0 _ rb ab n cb bs hn hR (B + 1 + 1) (by omega) _ HS.out) rfl rfl ?_
 rintro _ w4 ⟨dt4, rfl, ht4, hs1⟩
 refine ⟨_, rfl, ?_⟩; replace HS := Bx.mk hs1;clear hs1 HF a;intro a HF
 try dsimp only [List.eraseIdx] at HS
 refine zm HF ?_;clear HF a;intro a HF
 replace HS:=Bx.mk (HS.out.pick 0 rfl)
 refine wl_call rfl HF rfl (enter_of Tryz.func104 (by kernel_rfl) rfl) (args := #[.pointer (some ⟨rb, 0, none⟩)]) rfl (l92Op_any w0 _ rb ab n cb bs hn hR (B + 1 + 1 + 4) (by omega) _ HS.out) rfl rfl ?_
 rintro _ w5 ⟨do5, rfl, hp5, hq5, hr5, hs1⟩
 refine ⟨_, rfl, ?_⟩; replace HS := Bx.mk hs1;clear hs1 HF a;intro a HF
 try dsimp only [List.eraseIdx] at HS
 refine zy HF (yl_build HF rfl (ps := [(0, .int .i64 ((1 : Int) + (dn2 : Int))), (1, .int .i64 ((1 : Int) + (dn3 : Int))), (2, .string dt4), (3, .agg #[.int .i64 do5.fKind, .string do5.fPath, .string do5.fTo, .int .i64 do5.fAt, .string do5.fText])]) rfl (cs := #[.int .i64 ((1 : Int) + (dn2 : Int)), .int .i64 ((1 : Int) + (dn3 : Int)), .string dt4, .int .i64 do5.fKind, .string do5.fPath, .string do5.fTo, .int .i64 do5.fAt, .string do5.fText]) (by kernel_rfl)) ?_;clear HF a;intro a HF
 refine wl_alloc rfl HF rfl rfl rfl (Z := [.int .i64 0, .int .i64 0, .string ByteArray.empty, .int .i64 0, .string ByteArray.empty, .string ByteArray.empty, .int .i64 0, .string ByteArray.empty]) (by kernel_rfl) rfl HS.out ?_; clear HF HS a; intro a w6 b6 HF HS; replace HS := Bx.mk HS
 refine wl_storeBox rfl HF rfl rfl (HF.ev rfl) (HF.ev rfl) HS.out 0 rfl (cells_lit [.int .i64 ((1 : Int) + (dn2 : Int)), .int .i64 ((1 : Int) + (dn3 : Int)), .string dt4, .int .i64 do5.fKind, .string do5.fPath, .string do5.fTo, .int .i64 do5.fAt, .string do5.fText] rfl rfl) (by kernel_rfl) ?_; clear HS; intro w7 HS; replace HS := Bx.mk HS
 have HS : Bx (St w0 (boxA b6 8 55 (.agg #[.int .i64 ((1 : Int) + (dn2 : Int)), .int .i64 ((1 : Int) + (dn3 : Int)), .string dt4, .int .i64 do5.fKind, .string do5.fPath, .string do5.fTo, .int .i64 do5.fAt, .string do5.fText]) :: rdA rb ab n cb (B + 1 + 1 + 4 + 120) :: boxA b1 8 55 (.agg #[.int .i64 0, .int .i64 0, .string ByteArray.empty, .int .i64 0, .string ByteArray.empty, .string ByteArray.empty, .int .i64 0, .string ByteArray.empty]) :: F) _) := HS
 refine wl_ne ?_
 refine wp_seq ?_
 refine wp_sr ?_
 refine zm HF ?_;clear HF a;intro a HF
 replace HS:=Bx.mk (HS.out.pick 1 rfl)
 refine wl_call rfl HF rfl (enter_of Tryz.func94 (by kernel_rfl) rfl) (args := #[.pointer (some ⟨rb, 0, none⟩), .int .i64 16]) rfl (pickN w0 _ rb ab n cb bs hn hR (B + 1 + 1 + 4 + 120) (by omega) 16 (by omega) _ HS.out) rfl rfl ?_
 rintro _ w8 ⟨dn7, rfl, hu7, hs1⟩
 refine ⟨_, rfl, ?_⟩; replace HS := Bx.mk hs1;clear hs1 HF a;intro a HF
 try dsimp only [List.eraseIdx] at HS
 refine wl_ne ?_
 refine wp_block ?_
 refine wp_sr ?_
 refine zy HF (yl_eqlI rfl (HF.ev rfl) (HF.ev rfl)) ?_;clear HF a;intro a HF
 refine za HF ?_;clear HF a;intro a HF
 refine wl_ne ?_
 refine HF.cases 17 rfl (fun cc1 _ => ?_) fun cc1 _ => ?_
 ·clear HF;rename_i HF
  have dcc1 := eq_of_beq cc1
  refine wc_true HF rfl ?_
  refine wp_region_lit ?_
  refine wl_buildS (enc := encI) (e := 3) (size := 1) rfl HF rfl rfl rfl (ps := [(0, .int .i64 0), (1, .int .i64 900), (2, .int .i64 901)]) rfl (cells := [.int .i64 0, .int .i64 900, .int .i64 901]) (by kernel_rfl) [(0 : Int), (900 : Int), (901 : Int)] rfl rfl (by unfold maxLen; omega) rfl HS.out ?_; clear HF HS a; intro b8 a w9 HF HS; replace HS := Bx.mk HS
  refine zm HF ?_;clear HF a;intro a HF
  replace HS:=Bx.mk (HS.out.pick 1 rfl)
  refine wl_call rfl HF rfl (enter_of Tryz.func94 (by kernel_rfl) rfl) (args := #[.pointer (some ⟨rb, 0, none⟩), .int .i64 3]) rfl (pickN w0 _ rb ab n cb bs hn hR (B + 1 + 1 + 4 + 120 + 1) (by omega) 3 (by omega) _ HS.out) rfl rfl ?_
  rintro _ w10 ⟨dn9, rfl, hu9, hs1⟩
  refine ⟨_, rfl, ?_⟩; replace HS := Bx.mk hs1;clear hs1 HF a;intro a HF
  try dsimp only [List.eraseIdx] at HS
  refine zy HF (yl_indexAddr (e := 3) (i := dn9) (size := 1) rfl (HF.ev rfl) (HF.ev rfl) (by kernel_rfl) rfl (by omega)) ?_;clear HF a;intro a HF
  refine zy HF (ylo (v := .int .i64 (([(0 : Int), (900 : Int), (901 : Int)]).getD dn9 0)) rfl (HF.ev rfl) (HS.out.elem1 encI_len 1 rfl (get_getD (xs := [(0 : Int), (900 : Int), (901 : Int)]) (j := dn9) (d := 0) (by (try simp only [List.length_cons, List.length_nil]); omega)) rfl)) ?_;clear HF a;intro a HF
  refine zy HF (yfa 0 rfl (HF.ev rfl)) ?_;clear HF a;intro a HF
  refine wl_storeF rfl rfl rfl (HF.ev rfl) (HF.ev rfl) (by kernel_rfl) HS.out 2 rfl rfl rfl ?_; clear HS; intro w11 HS; replace HS := Bx.mk HS
  have HS : Bx (St w0 (rdA rb ab n cb (B + 1 + 1 + 4 + 120 + 1 + 1) :: rowA encI 1 3 (.slice (some ⟨b8, 0, none⟩) 3 3) ([(0 : Int), (900 : Int), (901 : Int)]) :: boxA b6 8 55 (.agg #[.int .i64 (([(0 : Int), (900 : Int), (901 : Int)]).getD dn9 0), .int .i64 ((1 : Int) + (dn3 : Int)), .string dt4, .int .i64 do5.fKind, .string do5.fPath, .string do5.fTo, .int .i64 do5.fAt, .string do5.fText]) :: boxA b1 8 55 (.agg #[.int .i64 0, .int .i64 0, .string ByteArray.empty, .int .i64 0, .string ByteArray.empty, .string ByteArray.empty, .int .i64 0, .string ByteArray.empty]) :: F) _) := HS
  refine wpList_nil ?_
  refine ex_block ?_
  refine ex_then ?_
  refine wp_sr ?_
  refine zy HF (ylr (cs := [.int .i64 (([(0 : Int), (900 : Int), (901 : Int)]).getD dn9 0), .int .i64 ((1 : Int) + (dn3 : Int)), .string dt4, .int .i64 do5.fKind, .string do5.fPath, .string do5.fTo, .int .i64 do5.fAt, .string do5.fText]) rfl (HF.ev rfl) ((HS.out.box 2 rfl).sub 0 8)) ?_;clear HF a;intro a HF
  refine wl_storeBox rfl HF rfl rfl (HF.ev rfl) (HF.ev rfl) HS.out 3 rfl (cells_lit [.int .i64 (([(0 : Int), (900 : Int), (901 : Int)]).getD dn9 0), .int .i64 ((1 : Int) + (dn3 : Int)), .string dt4, .int .i64 do5.fKind, .string do5.fPath, .string do5.fTo, .int .i64 do5.fAt, .string do5.fText] rfl rfl) (by kernel_rfl) ?_; clear HS; intro w12 HS; replace HS := Bx.mk HS
  have HS : Bx (St w0 (rdA rb ab n cb (B + 1 + 1 + 4 + 120 + 1 + 1) :: rowA encI 1 3 (.slice (some ⟨b8, 0, none⟩) 3 3) ([(0 : Int), (900 : Int), (901 : Int)]) :: boxA b6 8 55 (.agg #[.int .i64 (([(0 : Int), (900 : Int), (901 : Int)]).getD dn9 0), .int .i64 ((1 : Int) + (dn3 : Int)), .string dt4, .int .i64 do5.fKind, .string do5.fPath, .string do5.fTo, .int .i64 do5.fAt, .string do5.fText]) :: boxA b1 8 55 (.agg #[.int .i64 (([(0 : Int), (900 : Int), (901 : Int)]).getD dn9 0), .int .i64 ((1 : Int) + (dn3 : Int)), .string dt4, .int .i64 do5.fKind, .string do5.fPath, .string do5.fTo, .int .i64 do5.fAt, .string do5.fText]) :: F) _) := HS
  refine wl_ne ?_
  refine wp_ret ?_
  refine bp_ret1 HF Tryz.results57 (HF.resBox rfl (HS.out.box 3 rfl) (by kernel_rfl)) ?_
  replace HS:=Bx.mk (HS.out.pick 0 rfl)
  replace HS : Bx (St w0 (rdA rb ab n cb (B + 140) :: rowA encI 1 3 (.slice (some ⟨b8, 0, none⟩) 3 3) ([(0 : Int), (900 : Int), (901 : Int)]) :: boxA b6 8 55 (.agg #[.int .i64 (([(0 : Int), (900 : Int), (901 : Int)]).getD dn9 0), .int .i64 ((1 : Int) + (dn3 : Int)), .string dt4, .int .i64 do5.fKind, .string do5.fPath, .string do5.fTo, .int .i64 do5.fAt, .string do5.fText]) :: boxA b1 8 55 (.agg #[.int .i64 (([(0 : Int), (900 : Int), (901 : Int)]).getD dn9 0), .int .i64 ((1 : Int) + (dn3 : Int)), .string dt4, .int .i64 do5.fKind, .string do5.fPath, .string do5.fTo, .int .i64 do5.fAt, .string do5.fText]) :: F) _) := ⟨HS.out.rdLe (by omega)⟩
  exact ⟨⟨(([(0 : Int), (900 : Int), (901 : Int)]).getD dn9 0), (1 : Int) + (dn3 : Int), dt4, do5⟩, ⟨ht4, hp5, hq5, hr5⟩, rfl, (((HS.out.erase 3).erase 2).erase 1)⟩
 ·clear HF;rename_i HF
  have dcc1 := ne_of_beq_false cc1
  refine wc_false HF rfl ?_
  refine wp_sr ?_
  refine zy HF (yl_eqlI rfl (HF.ev rfl) (HF.ev rfl)) ?_;clear HF a;intro a HF
  refine za HF ?_;clear HF a;intro a HF
  refine wl_ne ?_
  refine HF.cases 25 rfl (fun cc2 _ => ?_) fun cc2 _ => ?_
  ·clear HF;rename_i HF
   have dcc2 := eq_of_beq cc2
   refine wc_true HF rfl ?_
   refine wp_region_lit ?_
   refine wl_buildS (enc := encI) (e := 3) (size := 1) rfl HF rfl rfl rfl (ps := [(0, .int .i64 0), (1, .int .i64 5)]) rfl (cells := [.int .i64 0, .int .i64 5]) (by kernel_rfl) [(0 : Int), (5 : Int)] rfl rfl (by unfold maxLen; omega) rfl HS.out ?_; clear HF HS a; intro b10 a w13 HF HS; replace HS := Bx.mk HS
   refine zm HF ?_;clear HF a;intro a HF
   replace HS:=Bx.mk (HS.out.pick 1 rfl)
   refine wl_call rfl HF rfl (enter_of Tryz.func94 (by kernel_rfl) rfl) (args := #[.pointer (some ⟨rb, 0, none⟩), .int .i64 2]) rfl (pickN w0 _ rb ab n cb bs hn hR (B + 1 + 1 + 4 + 120 + 1) (by omega) 2 (by omega) _ HS.out) rfl rfl ?_
   rintro _ w14 ⟨dn11, rfl, hu11, hs1⟩
   refine ⟨_, rfl, ?_⟩; replace HS := Bx.mk hs1;clear hs1 HF a;intro a HF
   try dsimp only [List.eraseIdx] at HS
   refine zy HF (yl_indexAddr (e := 3) (i := dn11) (size := 1) rfl (HF.ev rfl) (HF.ev rfl) (by kernel_rfl) rfl (by omega)) ?_;clear HF a;intro a HF
   refine zy HF (ylo (v := .int .i64 (([(0 : Int), (5 : Int)]).getD dn11 0)) rfl (HF.ev rfl) (HS.out.elem1 encI_len 1 rfl (get_getD (xs := [(0 : Int), (5 : Int)]) (j := dn11) (d := 0) (by (try simp only [List.length_cons, List.length_nil]); omega)) rfl)) ?_;clear HF a;intro a HF
   refine zy HF (yfa 1 rfl (HF.ev rfl)) ?_;clear HF a;intro a HF
   refine wl_storeF rfl rfl rfl (HF.ev rfl) (HF.ev rfl) (by kernel_rfl) HS.out 2 rfl rfl rfl ?_; clear HS; intro w15 HS; replace HS := Bx.mk HS
   have HS : Bx (St w0 (rdA rb ab n cb (B + 1 + 1 + 4 + 120 + 1 + 1) :: rowA encI 1 3 (.slice (some ⟨b10, 0, none⟩) 2 2) ([(0 : Int), (5 : Int)]) :: boxA b6 8 55 (.agg #[.int .i64 ((1 : Int) + (dn2 : Int)), .int .i64 (([(0 : Int), (5 : Int)]).getD dn11 0), .string dt4, .int .i64 do5.fKind, .string do5.fPath, .string do5.fTo, .int .i64 do5.fAt, .string do5.fText]) :: boxA b1 8 55 (.agg #[.int .i64 0, .int .i64 0, .string ByteArray.empty, .int .i64 0, .string ByteArray.empty, .string ByteArray.empty, .int .i64 0, .string ByteArray.empty]) :: F) _) := HS
   refine wpList_nil ?_
   refine ex_block ?_
   refine ex_then ?_
   refine wp_sr ?_
   refine zy HF (ylr (cs := [.int .i64 ((1 : Int) + (dn2 : Int)), .int .i64 (([(0 : Int), (5 : Int)]).getD dn11 0), .string dt4, .int .i64 do5.fKind, .string do5.fPath, .string do5.fTo, .int .i64 do5.fAt, .string do5.fText]) rfl (HF.ev rfl) ((HS.out.box 2 rfl).sub 0 8)) ?_;clear HF a;intro a HF
   refine wl_storeBox rfl HF rfl rfl (HF.ev rfl) (HF.ev rfl) HS.out 3 rfl (cells_lit [.int .i64 ((1 : Int) + (dn2 : Int)), .int .i64 (([(0 : Int), (5 : Int)]).getD dn11 0), .string dt4, .int .i64 do5.fKind, .string do5.fPath, .string do5.fTo, .int .i64 do5.fAt, .string do5.fText] rfl rfl) (by kernel_rfl) ?_; clear HS; intro w16 HS; replace HS := Bx.mk HS
   have HS : Bx (St w0 (rdA rb ab n cb (B + 1 + 1 + 4 + 120 + 1 + 1) :: rowA encI 1 3 (.slice (some ⟨b10, 0, none⟩) 2 2) ([(0 : Int), (5 : Int)]) :: boxA b6 8 55 (.agg #[.int .i64 ((1 : Int) + (dn2 : Int)), .int .i64 (([(0 : Int), (5 : Int)]).getD dn11 0), .string dt4, .int .i64 do5.fKind, .string do5.fPath, .string do5.fTo, .int .i64 do5.fAt, .string do5.fText]) :: boxA b1 8 55 (.agg #[.int .i64 ((1 : Int) + (dn2 : Int)), .int .i64 (([(0 : Int), (5 : Int)]).getD dn11 0), .string dt4, .int .i64 do5.fKind, .string do5.fPath, .string do5.fTo, .int .i64 do5.fAt, .string do5.fText]) :: F) _) := HS
   refine wl_ne ?_
   refine wp_ret ?_
   refine bp_ret1 HF Tryz.results57 (HF.resBox rfl (HS.out.box 3 rfl) (by kernel_rfl)) ?_
   replace HS:=Bx.mk (HS.out.pick 0 rfl)
   replace HS : Bx (St w0 (rdA rb ab n cb (B + 140) :: rowA encI 1 3 (.slice (some ⟨b10, 0, none⟩) 2 2) ([(0 : Int), (5 : Int)]) :: boxA b6 8 55 (.agg #[.int .i64 ((1 : Int) + (dn2 : Int)), .int .i64 (([(0 : Int), (5 : Int)]).getD dn11 0), .string dt4, .int .i64 do5.fKind, .string do5.fPath, .string do5.fTo, .int .i64 do5.fAt, .string do5.fText]) :: boxA b1 8 55 (.agg #[.int .i64 ((1 : Int) + (dn2 : Int)), .int .i64 (([(0 : Int), (5 : Int)]).getD dn11 0), .string dt4, .int .i64 do5.fKind, .string do5.fPath, .string do5.fTo, .int .i64 do5.fAt, .string do5.fText]) :: F) _) := ⟨HS.out.rdLe (by omega)⟩
   exact ⟨⟨(1 : Int) + (dn2 : Int), (([(0 : Int), (5 : Int)]).getD dn11 0), dt4, do5⟩, ⟨ht4, hp5, hq5, hr5⟩, rfl, (((HS.out.erase 3).erase 2).erase 1)⟩
  ·clear HF;rename_i HF
   have dcc2 := ne_of_beq_false cc2
   refine wc_false HF rfl ?_
   refine wp_skip ?_
   refine ex_block ?_
   refine ex_then ?_
   refine wp_sr ?_
   refine zy HF (ylr (cs := [.int .i64 ((1 : Int) + (dn2 : Int)), .int .i64 ((1 : Int) + (dn3 : Int)), .string dt4, .int .i64 do5.fKind, .string do5.fPath, .string do5.fTo, .int .i64 do5.fAt, .string do5.fText]) rfl (HF.ev rfl) ((HS.out.box 1 rfl).sub 0 8)) ?_;clear HF a;intro a HF
   refine wl_storeBox rfl HF rfl rfl (HF.ev rfl) (HF.ev rfl) HS.out 2 rfl (cells_lit [.int .i64 ((1 : Int) + (dn2 : Int)), .int .i64 ((1 : Int) + (dn3 : Int)), .string dt4, .int .i64 do5.fKind, .string do5.fPath, .string do5.fTo, .int .i64 do5.fAt, .string do5.fText] rfl rfl) (by kernel_rfl) ?_; clear HS; intro w17 HS; replace HS := Bx.mk HS
   have HS : Bx (St w0 (rdA rb ab n cb (B + 1 + 1 + 4 + 120 + 1) :: boxA b6 8 55 (.agg #[.int .i64 ((1 : Int) + (dn2 : Int)), .int .i64 ((1 : Int) + (dn3 : Int)), .string dt4, .int .i64 do5.fKind, .string do5.fPath, .string do5.fTo, .int .i64 do5.fAt, .string do5.fText]) :: boxA b1 8 55 (.agg #[.int .i64 ((1 : Int) + (dn2 : Int)), .int .i64 ((1 : Int) + (dn3 : Int)), .string dt4, .int .i64 do5.fKind, .string do5.fPath, .string do5.fTo, .int .i64 do5.fAt, .string do5.fText]) :: F) _) := HS
   refine wl_ne ?_
   refine wp_ret ?_
   refine bp_ret1 HF Tryz.results57 (HF.resBox rfl (HS.out.box 2 rfl) (by kernel_rfl)) ?_
   replace HS:=Bx.mk (HS.out.pick 0 rfl)
   replace HS : Bx (St w0 (rdA rb ab n cb (B + 140) :: boxA b6 8 55 (.agg #[.int .i64 ((1 : Int) + (dn2 : Int)), .int .i64 ((1 : Int) + (dn3 : Int)), .string dt4, .int .i64 do5.fKind, .string do5.fPath, .string do5.fTo, .int .i64 do5.fAt, .string do5.fText]) :: boxA b1 8 55 (.agg #[.int .i64 ((1 : Int) + (dn2 : Int)), .int .i64 ((1 : Int) + (dn3 : Int)), .string dt4, .int .i64 do5.fKind, .string do5.fPath, .string do5.fTo, .int .i64 do5.fAt, .string do5.fText]) :: F) _) := ⟨HS.out.rdLe (by omega)⟩
   exact ⟨⟨(1 : Int) + (dn2 : Int), (1 : Int) + (dn3 : Int), dt4, do5⟩, ⟨ht4, hp5, hq5, hr5⟩, rfl, ((HS.out.erase 2).erase 1)⟩

set_option maxHeartbeats 4000000 in
abbrev lit10 : List Int := [(1 : Int), (1 : Int), (1 : Int), (2 : Int), (3 : Int)]
theorem l93Logs_any (w0 w : World) (rb : Nat) (ab : Option Addr) (n cb : Nat) (bs : List UInt8) (hn : n ≤ 2000) (hR : Rd encB 1 w0 ab n bs) (B : Nat) (hB : B ≤ 600000) (F : List Asr) (hS : St w0 (rdA rb ab n cb B :: F) w) : Calls Tryz.prog 56 #[.pointer (some ⟨rb, 0, none⟩)] w fun e w' => ∃ (ao : Option Addr) (co : Nat) (ps : List HD), e = .returned (.agg #[.slice ao ps.length co]) ∧ ps.length = 3 ∧ fitsL ps ∧ St w0 (rdA rb ab n cb (B + 2500) :: holdsA (rdsP ao ps) :: F) w' := by
 have HS := Bx.mk hS; clear hS
 refine wc_enter Tryz.func56 rfl Tryz.ntmps56 [(0, .pointer (some ⟨rb, 0, none⟩))] ⟨rfl, trivial⟩ rfl ?_; intro a HF
 refine wp_sr ?_
 refine wl_alloc rfl HF rfl rfl rfl (Z := [.slice none 0 0]) (by kernel_rfl) rfl HS.out ?_; clear HF HS a; intro a w1 b1 HF HS; replace HS := Bx.mk HS
 refine wl_ne ?_
 refine wp_sr ?_
 refine wl_call rfl HF rfl (enter_of Tryz.func93 (by kernel_rfl) rfl) (args := #[]) rfl (raidNew_any _) rfl rfl ?_
 rintro _ w2 ⟨gR, cR, qs0, hq0, rfl, hs⟩
 have hl0 : qs0.length = 3 := by rw [← dsOf_len, hq0]; rfl
 have hn0 : niceS 0 (dsOf qs0) := by rw [hq0]; exact nice3
 rw [hl0] at hs; refine ⟨_, rfl, ?_⟩; replace HS := Bx.mk (HS.out.add hs);clear hs HF a;intro a HF; rw [hl0] at HF
 try dsimp only [List.eraseIdx] at HS
 refine wl_alloc rfl HF rfl rfl rfl (Z := [.slice none 0 0]) (by kernel_rfl) rfl HS.out ?_; clear HF HS a; intro a w3 b2 HF HS; replace HS := Bx.mk HS
 refine wl_storeBox rfl HF rfl rfl (HF.ev rfl) (HF.ev rfl) HS.out 0 rfl (cells_lit [.slice (some ⟨gR, 0, none⟩) 3 cR] rfl rfl) (by kernel_rfl) ?_; clear HS; intro w4 HS; replace HS := Bx.mk HS
 have HS : Bx (St w0 (boxA b2 1 34 (.agg #[.slice (some ⟨gR, 0, none⟩) 3 cR]) :: rowA HD.cells 3 94 (.slice (some ⟨gR, 0, none⟩) 3 cR) qs0 :: sepA (qs0.map HD.asr) :: boxA b1 1 34 (.agg #[.slice none 0 0]) :: rdA rb ab n cb B :: F) _) := HS
 refine wl_ne ?_
 refine wp_sr ?_
 refine wl_buildS (enc := encI) (e := 3) (size := 1) rfl HF rfl rfl rfl (ps := [(0, .int .i64 1), (1, .int .i64 1), (2, .int .i64 1), (3, .int .i64 2), (4, .int .i64 3)]) rfl (cells := [.int .i64 1, .int .i64 1, .int .i64 1, .int .i64 2, .int .i64 3]) (by kernel_rfl) lit10 rfl rfl (by unfold maxLen; omega) rfl HS.out ?_; clear HF HS a; intro b3 a w5 HF HS; replace HS := Bx.mk HS
 refine zm HF ?_;clear HF a;intro a HF
 replace HS:=Bx.mk (HS.out.pick 5 rfl)
 refine wl_call rfl HF rfl (enter_of Tryz.func94 (by kernel_rfl) rfl) (args := #[.pointer (some ⟨rb, 0, none⟩), .int .i64 5]) rfl (pickN w0 _ rb ab n cb bs hn hR B (by omega) 5 (by omega) _ HS.out) rfl rfl ?_
 rintro _ w6 ⟨dn4, rfl, hu4, hs1⟩
 refine ⟨_, rfl, ?_⟩; replace HS := Bx.mk hs1;clear hs1 HF a;intro a HF
 try dsimp only [List.eraseIdx] at HS
 refine zy HF (yl_indexAddr (e := 3) (i := dn4) (size := 1) rfl (HF.ev rfl) (HF.ev rfl) (by kernel_rfl) rfl (by omega)) ?_;clear HF a;intro a HF
 refine zy HF (ylo (v := .int .i64 ((lit10).getD dn4 0)) rfl (HF.ev rfl) (HS.out.elem1 encI_len 1 rfl (get_getD (xs := lit10) (j := dn4) (d := 0) (by (try simp only [List.length_cons, List.length_nil]); omega)) rfl)) ?_;clear HF a;intro a HF
 refine za HF ?_;clear HF a;intro a HF
 refine wl_ne ?_
 refine wp_seq ?_
 refine wp_sr ?_
 refine za HF ?_;clear HF a;intro a HF
 refine wl_ne ?_
 refine wp_block ?_
 replace HS:=Bx.mk (HS.out.pick 0 rfl)
 replace HS : Bx (St w0 (rdA rb ab n cb (B + 1 + 200 * 1) :: rowA encI 1 3 (.slice (some ⟨b3, 0, none⟩) 5 5) (lit10) :: boxA b2 1 34 (.agg #[.slice (some ⟨gR, 0, none⟩) 3 cR]) :: rowA HD.cells 3 94 (.slice (some ⟨gR, 0, none⟩) 3 cR) qs0 :: sepA (qs0.map HD.asr) :: boxA b1 1 34 (.agg #[.slice none 0 0]) :: F) _) := ⟨HS.out.rdLe (by omega)⟩
 refine wc_loop (ι := Nat) (fun s a w => ∃ (qs : List HD), (1 ≤ s ∧ s ≤ 5 ∧ niceS 0 (dsOf qs)) ∧ Fr 89 a [(0, .pointer (some ⟨rb, 0, none⟩)), (2, .pointer (some ⟨b1, 0, none⟩)), (3, .pointer (some ⟨b2, 0, none⟩)), (4, .int .i64 ((lit10).getD dn4 0)), (5, .int .i64 (s : Int))] ∧ St w0 (rdA rb ab n cb (B + 1 + 200 * s) :: rowA encI 1 3 (.slice (some ⟨b3, 0, none⟩) 5 5) (lit10) :: boxA b2 1 34 (.agg #[.slice (some ⟨gR, 0, none⟩) 3 cR]) :: rowA HD.cells 3 94 (.slice (some ⟨gR, 0, none⟩) 3 cR) qs :: sepA (qs.map HD.asr) :: boxA b1 1 34 (.agg #[.slice none 0 0]) :: F) w) (fun s => 6 - s) 1 ⟨qs0, ⟨Nat.le_refl _, by omega, hn0⟩, HF.less _ ⟨rfl, rfl, rfl, rfl, rfl, trivial⟩, HS.out⟩ ?_
 clear HF HS; clear a
 rintro s a w7 ⟨qs, ⟨hs1, hs5, hni⟩, HF, HS⟩
 replace HS := Bx.mk HS
 have hql := hni.len
 refine wp_seq ?_
 refine wp_sr ?_
 refine zm HF ?_;clear HF a;intro a HF
 refine zy HF (yl_leqI rfl (HF.ev rfl) (HF.ev rfl)) ?_;clear HF a;intro a HF
 refine wl_ne ?_
 refine HF.cases 17 rfl (fun cc1 _ => ?_) fun cc1 _ => ?_
 ·clear HF;rename_i HF
  have dcc1 := of_decide_eq_true cc1
  refine wc_true HF rfl ?_
  refine wp_skip ?_
  refine ex_then ?_
  refine wp_seq ?_
  refine wp_block ?_
  refine wp_sr ?_
  refine zm HF ?_;clear HF a;intro a HF
  replace HS:=Bx.mk (HS.out.pick 0 rfl)
  refine wl_call rfl HF rfl (enter_of Tryz.func57 (by kernel_rfl) rfl) (args := #[.pointer (some ⟨rb, 0, none⟩)]) rfl (l93Intent_any w0 _ rb ab n cb bs hn hR (B + 1 + 200 * s) (by omega) _ HS.out) rfl rfl ?_
  rintro _ w8 ⟨dx5, hxt5, rfl, hs1⟩
  refine ⟨_, rfl, ?_⟩; replace HS := Bx.mk hs1;clear hs1 HF a;intro a HF
  try dsimp only [List.eraseIdx] at HS
  refine wl_alloc rfl HF rfl rfl rfl (Z := [.int .i64 0, .int .i64 0, .string ByteArray.empty, .int .i64 0, .string ByteArray.empty, .string ByteArray.empty, .int .i64 0, .string ByteArray.empty]) (by kernel_rfl) rfl HS.out ?_; clear HF HS a; intro a w9 b6 HF HS; replace HS := Bx.mk HS
  refine wl_storeBox rfl HF rfl rfl (HF.ev rfl) (HF.ev rfl) HS.out 0 rfl (cells_lit [.int .i64 dx5.fTxg, .int .i64 dx5.fSeq, .string dx5.fHead, .int .i64 dx5.fOp.fKind, .string dx5.fOp.fPath, .string dx5.fOp.fTo, .int .i64 dx5.fOp.fAt, .string dx5.fOp.fText] rfl rfl) (by kernel_rfl) ?_; clear HS; intro w10 HS; replace HS := Bx.mk HS
  have HS : Bx (St w0 (boxA b6 8 55 (.agg #[.int .i64 dx5.fTxg, .int .i64 dx5.fSeq, .string dx5.fHead, .int .i64 dx5.fOp.fKind, .string dx5.fOp.fPath, .string dx5.fOp.fTo, .int .i64 dx5.fOp.fAt, .string dx5.fOp.fText]) :: rdA rb ab n cb (B + 1 + 200 * s + 140) :: rowA encI 1 3 (.slice (some ⟨b3, 0, none⟩) 5 5) (lit10) :: boxA b2 1 34 (.agg #[.slice (some ⟨gR, 0, none⟩) 3 cR]) :: rowA HD.cells 3 94 (.slice (some ⟨gR, 0, none⟩) 3 cR) qs :: sepA (qs.map HD.asr) :: boxA b1 1 34 (.agg #[.slice none 0 0]) :: F) _) := HS
  refine wl_ne ?_
  refine wp_sr ?_
  refine zm HF ?_;clear HF a;intro a HF
  refine zy HF (yfa 1 rfl (HF.ev rfl)) ?_;clear HF a;intro a HF
  refine wl_storeF rfl rfl rfl (HF.ev rfl) (HF.ev rfl) (by kernel_rfl) HS.out 0 rfl rfl rfl ?_; clear HS; intro w11 HS; replace HS := Bx.mk HS
  have HS : Bx (St w0 (boxA b6 8 55 (.agg #[.int .i64 dx5.fTxg, .int .i64 (s : Int), .string dx5.fHead, .int .i64 dx5.fOp.fKind, .string dx5.fOp.fPath, .string dx5.fOp.fTo, .int .i64 dx5.fOp.fAt, .string dx5.fOp.fText]) :: rdA rb ab n cb (B + 1 + 200 * s + 140) :: rowA encI 1 3 (.slice (some ⟨b3, 0, none⟩) 5 5) (lit10) :: boxA b2 1 34 (.agg #[.slice (some ⟨gR, 0, none⟩) 3 cR]) :: rowA HD.cells 3 94 (.slice (some ⟨gR, 0, none⟩) 3 cR) qs :: sepA (qs.map HD.asr) :: boxA b1 1 34 (.agg #[.slice none 0 0]) :: F) _) := HS
  refine wl_ne ?_
  refine wp_sr ?_
  refine zm HF ?_;clear HF a;intro a HF
  refine zy HF (yfa 0 rfl (HF.ev rfl)) ?_;clear HF a;intro a HF
  refine wl_storeF rfl rfl rfl (HF.ev rfl) (HF.ev rfl) (by kernel_rfl) HS.out 0 rfl rfl rfl ?_; clear HS; intro w12 HS; replace HS := Bx.mk HS
  have HS : Bx (St w0 (boxA b6 8 55 (.agg #[.int .i64 ((lit10).getD dn4 0), .int .i64 (s : Int), .string dx5.fHead, .int .i64 dx5.fOp.fKind, .string dx5.fOp.fPath, .string dx5.fOp.fTo, .int .i64 dx5.fOp.fAt, .string dx5.fOp.fText]) :: rdA rb ab n cb (B + 1 + 200 * s + 140) :: rowA encI 1 3 (.slice (some ⟨b3, 0, none⟩) 5 5) (lit10) :: boxA b2 1 34 (.agg #[.slice (some ⟨gR, 0, none⟩) 3 cR]) :: rowA HD.cells 3 94 (.slice (some ⟨gR, 0, none⟩) 3 cR) qs :: sepA (qs.map HD.asr) :: boxA b1 1 34 (.agg #[.slice none 0 0]) :: F) _) := HS
  refine wl_ne ?_
  refine wp_seq ?_
  refine wp_sr ?_
  refine zm HF ?_;clear HF a;intro a HF
  replace HS:=Bx.mk (HS.out.pick 1 rfl)
  refine wl_call rfl HF rfl (enter_of Tryz.func94 (by kernel_rfl) rfl) (args := #[.pointer (some ⟨rb, 0, none⟩), .int .i64 8]) rfl (pickN w0 _ rb ab n cb bs hn hR (B + 1 + 200 * s + 140) (by omega) 8 (by omega) _ HS.out) rfl rfl ?_
  rintro _ w13 ⟨dn7, rfl, hu7, hs1⟩
  refine ⟨_, rfl, ?_⟩; replace HS := Bx.mk hs1;clear hs1 HF a;intro a HF
  try dsimp only [List.eraseIdx] at HS
  refine zy HF (yl_eqlI rfl (HF.ev rfl) (HF.ev rfl)) ?_;clear HF a;intro a HF
  refine wl_ne ?_
  refine HF.cases 28 rfl (fun cc2 _ => ?_) fun cc2 _ => ?_
  ·clear HF;rename_i HF
   have dcc2 := eq_of_beq cc2
   refine wc_true HF rfl ?_
   refine wp_region_lit ?_
   refine zm HF ?_;clear HF a;intro a HF
   replace HS:=Bx.mk (HS.out.pick 0 rfl)
   refine wl_call rfl HF rfl (enter_of Tryz.func94 (by kernel_rfl) rfl) (args := #[.pointer (some ⟨rb, 0, none⟩), .int .i64 5]) rfl (pickN w0 _ rb ab n cb bs hn hR (B + 1 + 200 * s + 140 + 1) (by omega) 5 (by omega) _ HS.out) rfl rfl ?_
   rintro _ w14 ⟨dn8, rfl, hu8, hs1⟩
   refine ⟨_, rfl, ?_⟩; replace HS := Bx.mk hs1;clear hs1 HF a;intro a HF
   try dsimp only [List.eraseIdx] at HS
   refine zy HF (yl_addI rfl (HF.ev rfl) (HF.ev rfl) (i64w (by omega))) ?_;clear HF a;intro a HF
   refine zy HF (yfa 0 rfl (HF.ev rfl)) ?_;clear HF a;intro a HF
   refine wl_storeF rfl rfl rfl (HF.ev rfl) (HF.ev rfl) (by kernel_rfl) HS.out 1 rfl rfl rfl ?_; clear HS; intro w15 HS; replace HS := Bx.mk HS
   have HS : Bx (St w0 (rdA rb ab n cb (B + 1 + 200 * s + 140 + 1 + 1) :: boxA b6 8 55 (.agg #[.int .i64 ((1 : Int) + (dn8 : Int)), .int .i64 (s : Int), .string dx5.fHead, .int .i64 dx5.fOp.fKind, .string dx5.fOp.fPath, .string dx5.fOp.fTo, .int .i64 dx5.fOp.fAt, .string dx5.fOp.fText]) :: rowA encI 1 3 (.slice (some ⟨b3, 0, none⟩) 5 5) (lit10) :: boxA b2 1 34 (.agg #[.slice (some ⟨gR, 0, none⟩) 3 cR]) :: rowA HD.cells 3 94 (.slice (some ⟨gR, 0, none⟩) 3 cR) qs :: sepA (qs.map HD.asr) :: boxA b1 1 34 (.agg #[.slice none 0 0]) :: F) _) := HS
   refine wl_ne ?_
   refine wp_sr ?_
   refine za HF ?_;clear HF a;intro a HF
   refine wl_ne ?_
   refine wp_block ?_
   replace HS:=Bx.mk (HS.out.pick 0 rfl)
   replace HS : Bx (St w0 (rdA rb ab n cb (B + 1 + 200 * s + 140 + 1 + 1 + 1 * 0) :: boxA b6 8 55 (.agg #[.int .i64 ((1 : Int) + (dn8 : Int)), .int .i64 (s : Int), .string dx5.fHead, .int .i64 dx5.fOp.fKind, .string dx5.fOp.fPath, .string dx5.fOp.fTo, .int .i64 dx5.fOp.fAt, .string dx5.fOp.fText]) :: rowA encI 1 3 (.slice (some ⟨b3, 0, none⟩) 5 5) (lit10) :: boxA b2 1 34 (.agg #[.slice (some ⟨gR, 0, none⟩) 3 cR]) :: rowA HD.cells 3 94 (.slice (some ⟨gR, 0, none⟩) 3 cR) qs :: sepA (qs.map HD.asr) :: boxA b1 1 34 (.agg #[.slice none 0 0]) :: F) _) := ⟨HS.out.rdLe (by omega)⟩
   refine wc_loop (ι := Nat) (fun i a w => ∃ (zs : List HD), (i ≤ 3 ∧ niceS 0 (dsOf zs)) ∧ Fr 89 a [(0, .pointer (some ⟨rb, 0, none⟩)), (2, .pointer (some ⟨b1, 0, none⟩)), (3, .pointer (some ⟨b2, 0, none⟩)), (4, .int .i64 ((lit10).getD dn4 0)), (5, .int .i64 (s : Int)), (6, .pointer (some ⟨b6, 0, none⟩)), (7, .int .i64 (i : Int))] ∧ St w0 (rdA rb ab n cb (B + 1 + 200 * s + 140 + 1 + 1 + 1 * i) :: boxA b6 8 55 (.agg #[.int .i64 ((1 : Int) + (dn8 : Int)), .int .i64 (s : Int), .string dx5.fHead, .int .i64 dx5.fOp.fKind, .string dx5.fOp.fPath, .string dx5.fOp.fTo, .int .i64 dx5.fOp.fAt, .string dx5.fOp.fText]) :: rowA encI 1 3 (.slice (some ⟨b3, 0, none⟩) 5 5) (lit10) :: boxA b2 1 34 (.agg #[.slice (some ⟨gR, 0, none⟩) 3 cR]) :: rowA HD.cells 3 94 (.slice (some ⟨gR, 0, none⟩) 3 cR) zs :: sepA (zs.map HD.asr) :: boxA b1 1 34 (.agg #[.slice none 0 0]) :: F) w) (fun i => 3 - i) 0 ⟨qs, ⟨Nat.zero_le _, hni⟩, HF.less _ ⟨rfl, rfl, rfl, rfl, rfl, rfl, rfl, trivial⟩, HS.out⟩ ?_
   clear HF HS; clear a
   rintro i a w16 ⟨zs, ⟨hi3, hnz0⟩, HF, HS⟩
   replace HS := Bx.mk HS
   have hzl := hnz0.len
   refine wp_seq ?_
   refine wp_sr ?_
   refine zm HF ?_;clear HF a;intro a HF
   refine zy HF (yl_lssI rfl (HF.ev rfl) (HF.ev rfl)) ?_;clear HF a;intro a HF
   refine wl_ne ?_
   refine HF.cases 34 rfl (fun cc3 _ => ?_) fun cc3 _ => ?_
   ·clear HF;rename_i HF
    have dcc3 := of_decide_eq_true cc3
    refine wc_true HF rfl ?_
    refine wp_skip ?_
    refine ex_then ?_
    refine wp_seq ?_
    refine wp_block ?_
    refine wp_sr ?_
    refine zm HF ?_;clear HF a;intro a HF
    replace HS:=Bx.mk (HS.out.pick 0 rfl)
    refine wl_call rfl HF rfl (enter_of Tryz.func94 (by kernel_rfl) rfl) (args := #[.pointer (some ⟨rb, 0, none⟩), .int .i64 5]) rfl (pickN w0 _ rb ab n cb bs hn hR (B + 1 + 200 * s + 140 + 1 + 1 + 1 * i) (by omega) 5 (by omega) _ HS.out) rfl rfl ?_
    rintro _ w17 ⟨dn9, rfl, hu9, hs1⟩
    refine ⟨_, rfl, ?_⟩; replace HS := Bx.mk hs1;clear hs1 HF a;intro a HF
    try dsimp only [List.eraseIdx] at HS
    refine zy HF (yl_gtrI rfl (HF.ev rfl) (HF.ev rfl)) ?_;clear HF a;intro a HF
    refine wl_ne ?_
    refine HF.cases 39 rfl (fun cc4 _ => ?_) fun cc4 _ => ?_
    ·clear HF;rename_i HF
     have dcc4 := of_decide_eq_true cc4
     refine wc_true HF rfl ?_
     replace HS:=Bx.mk (HS.out.pick 5 rfl)
     replace HS := Bx.mk (HS.out.hdOut i (by omega))
     obtain ⟨⟨ya, yc, yb, ye, yd⟩, hy⟩ : ∃ q : HD, q = zs.getD i default := ⟨_, rfl⟩; rw [← hy] at HS
     have hny : yd.nice 0 := by have h := hnz0.get (k := i) (by omega); rw [← hy] at h; exact h
     have hyc := hny.c; replace HS := Bx.mk ((St.join (r := [_, _])).2 HS.out)
     try dsimp only [List.eraseIdx] at HS
     obtain ⟨g10, rfl, _, _, _, _⟩ := HS.out.rowOpen 0 rfl (by omega)
     refine wr_marked (W := w0) (s := rowA encS 1 9 (.slice (some ⟨g10, 0, none⟩) yd.fCells.length yc) yd.fCells :: rowA WaitD.cells 2 137 (.slice yb yd.fWaits.length ye) yd.fWaits :: sepA ((zs.eraseIdx i).map HD.asr) :: rdA rb ab n cb (B + 1 + 200 * s + 140 + 1 + 1 + 1 * i + 1) :: boxA b6 8 55 (.agg #[.int .i64 ((1 : Int) + (dn8 : Int)), .int .i64 (s : Int), .string dx5.fHead, .int .i64 dx5.fOp.fKind, .string dx5.fOp.fPath, .string dx5.fOp.fTo, .int .i64 dx5.fOp.fAt, .string dx5.fOp.fText]) :: rowA encI 1 3 (.slice (some ⟨b3, 0, none⟩) 5 5) (lit10) :: boxA b2 1 34 (.agg #[.slice (some ⟨gR, 0, none⟩) 3 cR]) :: rowA HD.cells 3 94 (.slice (some ⟨gR, 0, none⟩) 3 cR) zs :: boxA b1 1 34 (.agg #[.slice none 0 0]) :: F) 12 (by kernel_rfl) ?_
     have HS2 := Bx.mk HS.out.drew; replace HS := Bx.mk (show St w0 (rowA encS 1 9 (.slice (some ⟨g10, 0, none⟩) yd.fCells.length yc) yd.fCells :: rowA WaitD.cells 2 137 (.slice yb yd.fWaits.length ye) yd.fWaits :: sepA ((zs.eraseIdx i).map HD.asr) :: rdA rb ab n cb (B + 1 + 200 * s + 140 + 1 + 1 + 1 * i + 1) :: boxA b6 8 55 (.agg #[.int .i64 ((1 : Int) + (dn8 : Int)), .int .i64 (s : Int), .string dx5.fHead, .int .i64 dx5.fOp.fKind, .string dx5.fOp.fPath, .string dx5.fOp.fTo, .int .i64 dx5.fOp.fAt, .string dx5.fOp.fText]) :: rowA encI 1 3 (.slice (some ⟨b3, 0, none⟩) 5 5) (lit10) :: boxA b2 1 34 (.agg #[.slice (some ⟨gR, 0, none⟩) 3 cR]) :: rowA HD.cells 3 94 (.slice (some ⟨gR, 0, none⟩) 3 cR) zs :: boxA b1 1 34 (.agg #[.slice none 0 0]) :: F) _ from HS.out.drew); generalize World.drew _ = w18 at HS HS2 ⊢
     refine wm_t 0 rfl (by kernel_rfl) (by kernel_rfl) (by kernel_rfl) (fun _ _ _ h => h) (by decide) rfl HF rfl rfl (fun _ _ => (yfa 0 rfl (HF.ev rfl))) (fun _ => HS.out) ?_;clear HF a;intro a HF
     refine wm_y 1 rfl (by kernel_rfl) (by kernel_rfl) (by kernel_rfl) (fun _ _ _ h => h) (by decide) (by kernel_rfl) (by kernel_rfl) rfl HF rfl rfl (fun _ HS => (ylo (v := .slice (some ⟨gR, 0, none⟩) 3 cR) rfl (HF.ev rfl) (((HS.box 6 rfl).cell 0).trans rfl))) HS.out ?_;clear HF a;intro a HF
     refine wm_t 2 rfl (by kernel_rfl) (by kernel_rfl) (by kernel_rfl) (fun _ _ _ h => h) (by decide) rfl HF rfl rfl (fun _ _ => (yl_move rfl (HF.ev rfl))) (fun _ => HS.out) ?_;clear HF a;intro a HF
     refine wm_y 3 rfl (by kernel_rfl) (by kernel_rfl) (by kernel_rfl) (fun _ _ _ h => h) (by decide) (by kernel_rfl) (by kernel_rfl) rfl HF rfl rfl (fun _ HS => (yl_indexAddr (e := 94) (i := i) (size := 3) rfl (HF.ev rfl) (HF.ev rfl) (by kernel_rfl) rfl (by omega))) HS.out ?_;clear HF a;intro a HF
     refine wm_t 4 rfl (by kernel_rfl) (by kernel_rfl) (by kernel_rfl) (fun _ _ _ h => h) (by decide) rfl HF rfl rfl (fun _ _ => (yfa 0 rfl (HF.ev rfl))) (fun _ => HS.out) ?_;clear HF a;intro a HF
     refine wm_y 5 rfl (by kernel_rfl) (by kernel_rfl) (by kernel_rfl) (fun _ _ _ h => h) (by decide) (by kernel_rfl) (by kernel_rfl) rfl HF rfl rfl (fun _ HS => (ylo (v := .slice (some ⟨g10, 0, none⟩) yd.fCells.length yc) rfl (HF.ev rfl) (HS.elem HD.cells_len 7 rfl ((get_getD (xs := zs) (j := i) (d := default) (by omega)).trans (congrArg some hy.symm)) 0 _ rfl))) HS.out ?_;clear HF a;intro a HF
     refine wm_t 6 rfl (by kernel_rfl) (by kernel_rfl) (by kernel_rfl) (fun _ _ _ h => h) (by decide) rfl HF rfl rfl (fun _ _ => (yl_move rfl (HF.ev rfl))) (fun _ => HS.out) ?_;clear HF a;intro a HF
     refine wm_y 7 rfl (by kernel_rfl) (by kernel_rfl) (by kernel_rfl) (fun _ _ _ h => h) (by decide) (by kernel_rfl) (by kernel_rfl) rfl HF rfl rfl (fun _ HS => (yl_addI (r := ((4 + s : Nat) : Int)) rfl (HF.ev rfl) (HF.ev rfl) ((i64w (by omega)).trans (by omega)))) HS.out ?_;clear HF a;intro a HF
     refine wm_y 8 rfl (by kernel_rfl) (by kernel_rfl) (by kernel_rfl) (fun _ _ _ h => h) (by decide) (by kernel_rfl) (by kernel_rfl) rfl HF rfl rfl (fun _ HS => (yl_subI (r := ((3 + s : Nat) : Int)) rfl (HF.ev rfl) (HF.ev rfl) ((i64w (by omega)).trans (by omega)))) HS.out ?_;clear HF a;intro a HF
     refine wm_y 9 rfl (by kernel_rfl) (by kernel_rfl) (by kernel_rfl) (fun _ _ _ h => h) (by decide) (by kernel_rfl) (by kernel_rfl) rfl HF rfl rfl (fun _ HS => (ylr (cs := [.int .i64 ((1 : Int) + (dn8 : Int)), .int .i64 (s : Int), .string dx5.fHead, .int .i64 dx5.fOp.fKind, .string dx5.fOp.fPath, .string dx5.fOp.fTo, .int .i64 dx5.fOp.fAt, .string dx5.fOp.fText]) rfl (HF.ev rfl) ((HS.box 4 rfl).sub 0 8))) HS.out ?_;clear HF a;intro a HF
     refine wm_one 10 (by kernel_rfl) ?_
     refine wo_callB rfl rfl HF rfl (enter_of Tryz.func89 (by kernel_rfl) rfl) (args := #[.agg #[.int .i64 ((1 : Int) + (dn8 : Int)), .int .i64 (s : Int), .string dx5.fHead, .int .i64 dx5.fOp.fKind, .string dx5.fOp.fPath, .string dx5.fOp.fTo, .int .i64 dx5.fOp.fAt, .string dx5.fOp.fText]]) rfl (v := .string (intentB (⟨(1 : Int) + (dn8 : Int), (s : Int), dx5.fHead, dx5.fOp⟩ : IntentD))) (specIntentPut_any (⟨(1 : Int) + (dn8 : Int), (s : Int), dx5.fHead, dx5.fOp⟩ : IntentD) _ (IntentD.tiny.fits ⟨hxt5.h, hxt5.p, hxt5.t, hxt5.x⟩)) rfl rfl ?_; intro w19 hb; replace HS := Bx.mk (HS.out.later hb); replace HS2 := Bx.mk (HS2.out.later hb);clear hb HF a;intro a HF
     refine ⟨fun _ => HS.out, ?_⟩
     refine wm_y 11 rfl (by kernel_rfl) (by kernel_rfl) (by kernel_rfl) (fun _ _ _ h => h) (by decide) (by kernel_rfl) (by kernel_rfl) rfl HF rfl rfl (fun _ HS => (yl_indexAddr (e := 9) (i := 3 + s) (size := 1) rfl (HF.ev rfl) (HF.ev rfl) (by kernel_rfl) rfl (by omega))) HS.out ?_;clear HF a;intro a HF
     refine wm_one 12 (by kernel_rfl) ?_
     refine wo_storeE encS_len rfl rfl rfl rfl (HF.ev rfl) (HF.ev rfl) (by kernel_rfl) HS2.out 0 rfl (by omega) (z := (intentB (⟨(1 : Int) + (dn8 : Int), (s : Int), dx5.fHead, dx5.fOp⟩ : IntentD))) rfl rfl ?_
     clear HS2; intro w20 HS2; replace HS2 : Bx (St w0 (rowA encS 1 9 (.slice (some ⟨g10, 0, none⟩) yd.fCells.length yc) (yd.fCells.set (3 + s) (intentB (⟨(1 : Int) + (dn8 : Int), (s : Int), dx5.fHead, dx5.fOp⟩ : IntentD))) :: rowA WaitD.cells 2 137 (.slice yb yd.fWaits.length ye) yd.fWaits :: sepA ((zs.eraseIdx i).map HD.asr) :: rdA rb ab n cb (B + 1 + 200 * s + 140 + 1 + 1 + 1 * i + 1) :: boxA b6 8 55 (.agg #[.int .i64 ((1 : Int) + (dn8 : Int)), .int .i64 (s : Int), .string dx5.fHead, .int .i64 dx5.fOp.fKind, .string dx5.fOp.fPath, .string dx5.fOp.fTo, .int .i64 dx5.fOp.fAt, .string dx5.fOp.fText]) :: rowA encI 1 3 (.slice (some ⟨b3, 0, none⟩) 5 5) (lit10) :: boxA b2 1 34 (.agg #[.slice (some ⟨gR, 0, none⟩) 3 cR]) :: rowA HD.cells 3 94 (.slice (some ⟨gR, 0, none⟩) 3 cR) zs :: boxA b1 1 34 (.agg #[.slice none 0 0]) :: F) _) := ⟨HS2⟩; refine ⟨(fun h => absurd (show true = false from h) (by decide)), ?_⟩
     refine wm_done (by kernel_rfl) ?_
     clear HS; have HS := HS2; clear HS2
     refine ex_block ?_
     refine ex_then ?_
     refine wp_region_lit ?_
     refine zm HF ?_;clear HF a;intro a HF
     refine zy HF (yl_addI rfl (HF.ev rfl) (HF.ev rfl) (i64w (by omega))) ?_;clear HF a;intro a HF
     refine za HF ?_;clear HF a;intro a HF
     refine wl_ne ?_
     replace HS:=Bx.mk ((((HS.out.pick 2 rfl).pick 2 rfl).pick 2 rfl).pick 7 rfl)
     replace HS := Bx.mk (St.cellIn (q := (⟨some ⟨g10, 0, none⟩, yc, yb, ye, yd⟩ : HD)) (by omega) hy HS.out)
     try dsimp only [List.eraseIdx] at HS
     have hnz : niceS 0 (dsOf (zs.set i ⟨some ⟨g10, 0, none⟩, yc, yb, ye, { yd with fCells := yd.fCells.set (3 + s) (intentB (⟨(1 : Int) + (dn8 : Int), (s : Int), dx5.fHead, dx5.fOp⟩ : IntentD)) }⟩)) := by rw [dsOf_set]; exact niceS_set hnz0 (nice_cell hny (Nat.le_trans (intentB_260 _) (by decide)))
     replace HS:=Bx.mk (HS.out.pick 2 rfl)
     replace HS : Bx (St w0 (rdA rb ab n cb (B + 1 + 200 * s + 140 + 1 + 1 + 1 * (i + 1)) :: rowA HD.cells 3 94 (.slice (some ⟨gR, 0, none⟩) 3 cR) (zs.set i ⟨some ⟨g10, 0, none⟩, yc, yb, ye, { yd with fCells := yd.fCells.set (3 + s) (intentB (⟨(1 : Int) + (dn8 : Int), (s : Int), dx5.fHead, dx5.fOp⟩ : IntentD)) }⟩) :: sepA ((zs.set i ⟨some ⟨g10, 0, none⟩, yc, yb, ye, { yd with fCells := yd.fCells.set (3 + s) (intentB (⟨(1 : Int) + (dn8 : Int), (s : Int), dx5.fHead, dx5.fOp⟩ : IntentD)) }⟩).map HD.asr) :: boxA b6 8 55 (.agg #[.int .i64 ((1 : Int) + (dn8 : Int)), .int .i64 (s : Int), .string dx5.fHead, .int .i64 dx5.fOp.fKind, .string dx5.fOp.fPath, .string dx5.fOp.fTo, .int .i64 dx5.fOp.fAt, .string dx5.fOp.fText]) :: rowA encI 1 3 (.slice (some ⟨b3, 0, none⟩) 5 5) (lit10) :: boxA b2 1 34 (.agg #[.slice (some ⟨gR, 0, none⟩) 3 cR]) :: boxA b1 1 34 (.agg #[.slice none 0 0]) :: F) _) := ⟨HS.out.rdLe (by omega)⟩
     replace HS:=Bx.mk (((((((HS.out.pick 6 rfl).pick 3 rfl).pick 3 rfl).pick 6 rfl).pick 6 rfl).pick 6 rfl).pick 6 rfl)
     exact ⟨i + 1, ⟨zs.set i ⟨some ⟨g10, 0, none⟩, yc, yb, ye, { yd with fCells := yd.fCells.set (3 + s) (intentB (⟨(1 : Int) + (dn8 : Int), (s : Int), dx5.fHead, dx5.fOp⟩ : IntentD)) }⟩, ⟨by omega, hnz⟩, HF.less _ ⟨rfl, rfl, rfl, rfl, rfl, rfl, rfl, trivial⟩, HS.out⟩, (by omega)⟩
    ·clear HF;rename_i HF
     have dcc4 := of_decide_eq_false cc4
     refine wc_false HF rfl ?_
     refine wp_skip ?_
     refine ex_block ?_
     refine ex_then ?_
     refine wp_region_lit ?_
     refine zm HF ?_;clear HF a;intro a HF
     refine zy HF (yl_addI rfl (HF.ev rfl) (HF.ev rfl) (i64w (by omega))) ?_;clear HF a;intro a HF
     refine za HF ?_;clear HF a;intro a HF
     refine wl_ne ?_
     replace HS:=Bx.mk (HS.out.pick 0 rfl)
     replace HS : Bx (St w0 (rdA rb ab n cb (B + 1 + 200 * s + 140 + 1 + 1 + 1 * (i + 1)) :: boxA b6 8 55 (.agg #[.int .i64 ((1 : Int) + (dn8 : Int)), .int .i64 (s : Int), .string dx5.fHead, .int .i64 dx5.fOp.fKind, .string dx5.fOp.fPath, .string dx5.fOp.fTo, .int .i64 dx5.fOp.fAt, .string dx5.fOp.fText]) :: rowA encI 1 3 (.slice (some ⟨b3, 0, none⟩) 5 5) (lit10) :: boxA b2 1 34 (.agg #[.slice (some ⟨gR, 0, none⟩) 3 cR]) :: rowA HD.cells 3 94 (.slice (some ⟨gR, 0, none⟩) 3 cR) zs :: sepA (zs.map HD.asr) :: boxA b1 1 34 (.agg #[.slice none 0 0]) :: F) _) := ⟨HS.out.rdLe (by omega)⟩
     exact ⟨i + 1, ⟨zs, ⟨by omega, hnz0⟩, HF.less _ ⟨rfl, rfl, rfl, rfl, rfl, rfl, rfl, trivial⟩, HS.out⟩, (by omega)⟩
   ·clear HF;rename_i HF
    have dcc3 := of_decide_eq_false cc3
    refine wc_false HF rfl ?_
    refine wp_exit ?_
    refine ex_then_exit ?_
    refine ex_then_exit ?_
    refine ex_block_hit ?_
    refine ex_block ?_
    refine ex_then ?_
    refine wp_region_lit ?_
    refine zm HF ?_;clear HF a;intro a HF
    refine zy HF (yl_addI rfl (HF.ev rfl) (HF.ev rfl) (i64w (by omega))) ?_;clear HF a;intro a HF
    refine za HF ?_;clear HF a;intro a HF
    refine wl_ne ?_
    replace HS:=Bx.mk (HS.out.pick 0 rfl)
    replace HS : Bx (St w0 (rdA rb ab n cb (B + 1 + 200 * (s + 1)) :: boxA b6 8 55 (.agg #[.int .i64 ((1 : Int) + (dn8 : Int)), .int .i64 (s : Int), .string dx5.fHead, .int .i64 dx5.fOp.fKind, .string dx5.fOp.fPath, .string dx5.fOp.fTo, .int .i64 dx5.fOp.fAt, .string dx5.fOp.fText]) :: rowA encI 1 3 (.slice (some ⟨b3, 0, none⟩) 5 5) (lit10) :: boxA b2 1 34 (.agg #[.slice (some ⟨gR, 0, none⟩) 3 cR]) :: rowA HD.cells 3 94 (.slice (some ⟨gR, 0, none⟩) 3 cR) zs :: sepA (zs.map HD.asr) :: boxA b1 1 34 (.agg #[.slice none 0 0]) :: F) _) := ⟨HS.out.rdLe (by omega)⟩
    replace HS:=Bx.mk ((((((HS.out.pick 6 rfl).pick 6 rfl).pick 6 rfl).pick 6 rfl).pick 6 rfl).pick 5 rfl)
    exact ⟨s + 1, ⟨zs, ⟨by omega, by omega, hnz0⟩, HF.less _ ⟨rfl, rfl, rfl, rfl, rfl, trivial⟩, (HS.out.erase 6)⟩, (by omega)⟩
  ·clear HF;rename_i HF
   have dcc2 := ne_of_beq_false cc2
   refine wc_false HF rfl ?_
   refine wp_skip ?_
   refine ex_then ?_
   refine wp_sr ?_
   refine za HF ?_;clear HF a;intro a HF
   refine wl_ne ?_
   refine wp_block ?_
   replace HS:=Bx.mk (HS.out.pick 0 rfl)
   replace HS : Bx (St w0 (rdA rb ab n cb (B + 1 + 200 * s + 140 + 1 + 1 * 0) :: boxA b6 8 55 (.agg #[.int .i64 ((lit10).getD dn4 0), .int .i64 (s : Int), .string dx5.fHead, .int .i64 dx5.fOp.fKind, .string dx5.fOp.fPath, .string dx5.fOp.fTo, .int .i64 dx5.fOp.fAt, .string dx5.fOp.fText]) :: rowA encI 1 3 (.slice (some ⟨b3, 0, none⟩) 5 5) (lit10) :: boxA b2 1 34 (.agg #[.slice (some ⟨gR, 0, none⟩) 3 cR]) :: rowA HD.cells 3 94 (.slice (some ⟨gR, 0, none⟩) 3 cR) qs :: sepA (qs.map HD.asr) :: boxA b1 1 34 (.agg #[.slice none 0 0]) :: F) _) := ⟨HS.out.rdLe (by omega)⟩
   refine wc_loop (ι := Nat) (fun i a w => ∃ (zs : List HD), (i ≤ 3 ∧ niceS 0 (dsOf zs)) ∧ Fr 89 a [(0, .pointer (some ⟨rb, 0, none⟩)), (2, .pointer (some ⟨b1, 0, none⟩)), (3, .pointer (some ⟨b2, 0, none⟩)), (4, .int .i64 ((lit10).getD dn4 0)), (5, .int .i64 (s : Int)), (6, .pointer (some ⟨b6, 0, none⟩)), (7, .int .i64 (i : Int))] ∧ St w0 (rdA rb ab n cb (B + 1 + 200 * s + 140 + 1 + 1 * i) :: boxA b6 8 55 (.agg #[.int .i64 ((lit10).getD dn4 0), .int .i64 (s : Int), .string dx5.fHead, .int .i64 dx5.fOp.fKind, .string dx5.fOp.fPath, .string dx5.fOp.fTo, .int .i64 dx5.fOp.fAt, .string dx5.fOp.fText]) :: rowA encI 1 3 (.slice (some ⟨b3, 0, none⟩) 5 5) (lit10) :: boxA b2 1 34 (.agg #[.slice (some ⟨gR, 0, none⟩) 3 cR]) :: rowA HD.cells 3 94 (.slice (some ⟨gR, 0, none⟩) 3 cR) zs :: sepA (zs.map HD.asr) :: boxA b1 1 34 (.agg #[.slice none 0 0]) :: F) w) (fun i => 3 - i) 0 ⟨qs, ⟨Nat.zero_le _, hni⟩, HF.less _ ⟨rfl, rfl, rfl, rfl, rfl, rfl, rfl, trivial⟩, HS.out⟩ ?_
   clear HF HS; clear a
   rintro i a w21 ⟨zs, ⟨hi3, hnz0⟩, HF, HS⟩
   replace HS := Bx.mk HS
   have hzl := hnz0.len
   refine wp_seq ?_
   refine wp_sr ?_
   refine zm HF ?_;clear HF a;intro a HF
   refine zy HF (yl_lssI rfl (HF.ev rfl) (HF.ev rfl)) ?_;clear HF a;intro a HF
   refine wl_ne ?_
   refine HF.cases 34 rfl (fun cc5 _ => ?_) fun cc5 _ => ?_
   ·clear HF;rename_i HF
    have dcc5 := of_decide_eq_true cc5
    refine wc_true HF rfl ?_
    refine wp_skip ?_
    refine ex_then ?_
    refine wp_seq ?_
    refine wp_block ?_
    refine wp_sr ?_
    refine zm HF ?_;clear HF a;intro a HF
    replace HS:=Bx.mk (HS.out.pick 0 rfl)
    refine wl_call rfl HF rfl (enter_of Tryz.func94 (by kernel_rfl) rfl) (args := #[.pointer (some ⟨rb, 0, none⟩), .int .i64 5]) rfl (pickN w0 _ rb ab n cb bs hn hR (B + 1 + 200 * s + 140 + 1 + 1 * i) (by omega) 5 (by omega) _ HS.out) rfl rfl ?_
    rintro _ w22 ⟨dn11, rfl, hu11, hs1⟩
    refine ⟨_, rfl, ?_⟩; replace HS := Bx.mk hs1;clear hs1 HF a;intro a HF
    try dsimp only [List.eraseIdx] at HS
    refine zy HF (yl_gtrI rfl (HF.ev rfl) (HF.ev rfl)) ?_;clear HF a;intro a HF
    refine wl_ne ?_
    refine HF.cases 39 rfl (fun cc6 _ => ?_) fun cc6 _ => ?_
    ·clear HF;rename_i HF
     have dcc6 := of_decide_eq_true cc6
     refine wc_true HF rfl ?_
     replace HS:=Bx.mk (HS.out.pick 5 rfl)
     replace HS := Bx.mk (HS.out.hdOut i (by omega))
     obtain ⟨⟨ya, yc, yb, ye, yd⟩, hy⟩ : ∃ q : HD, q = zs.getD i default := ⟨_, rfl⟩; rw [← hy] at HS
     have hny : yd.nice 0 := by have h := hnz0.get (k := i) (by omega); rw [← hy] at h; exact h
     have hyc := hny.c; replace HS := Bx.mk ((St.join (r := [_, _])).2 HS.out)
     try dsimp only [List.eraseIdx] at HS
     obtain ⟨g12, rfl, _, _, _, _⟩ := HS.out.rowOpen 0 rfl (by omega)
     refine wr_marked (W := w0) (s := rowA encS 1 9 (.slice (some ⟨g12, 0, none⟩) yd.fCells.length yc) yd.fCells :: rowA WaitD.cells 2 137 (.slice yb yd.fWaits.length ye) yd.fWaits :: sepA ((zs.eraseIdx i).map HD.asr) :: rdA rb ab n cb (B + 1 + 200 * s + 140 + 1 + 1 * i + 1) :: boxA b6 8 55 (.agg #[.int .i64 ((lit10).getD dn4 0), .int .i64 (s : Int), .string dx5.fHead, .int .i64 dx5.fOp.fKind, .string dx5.fOp.fPath, .string dx5.fOp.fTo, .int .i64 dx5.fOp.fAt, .string dx5.fOp.fText]) :: rowA encI 1 3 (.slice (some ⟨b3, 0, none⟩) 5 5) (lit10) :: boxA b2 1 34 (.agg #[.slice (some ⟨gR, 0, none⟩) 3 cR]) :: rowA HD.cells 3 94 (.slice (some ⟨gR, 0, none⟩) 3 cR) zs :: boxA b1 1 34 (.agg #[.slice none 0 0]) :: F) 12 (by kernel_rfl) ?_
     have HS2 := Bx.mk HS.out.drew; replace HS := Bx.mk (show St w0 (rowA encS 1 9 (.slice (some ⟨g12, 0, none⟩) yd.fCells.length yc) yd.fCells :: rowA WaitD.cells 2 137 (.slice yb yd.fWaits.length ye) yd.fWaits :: sepA ((zs.eraseIdx i).map HD.asr) :: rdA rb ab n cb (B + 1 + 200 * s + 140 + 1 + 1 * i + 1) :: boxA b6 8 55 (.agg #[.int .i64 ((lit10).getD dn4 0), .int .i64 (s : Int), .string dx5.fHead, .int .i64 dx5.fOp.fKind, .string dx5.fOp.fPath, .string dx5.fOp.fTo, .int .i64 dx5.fOp.fAt, .string dx5.fOp.fText]) :: rowA encI 1 3 (.slice (some ⟨b3, 0, none⟩) 5 5) (lit10) :: boxA b2 1 34 (.agg #[.slice (some ⟨gR, 0, none⟩) 3 cR]) :: rowA HD.cells 3 94 (.slice (some ⟨gR, 0, none⟩) 3 cR) zs :: boxA b1 1 34 (.agg #[.slice none 0 0]) :: F) _ from HS.out.drew); generalize World.drew _ = w23 at HS HS2 ⊢
     refine wm_t 0 rfl (by kernel_rfl) (by kernel_rfl) (by kernel_rfl) (fun _ _ _ h => h) (by decide) rfl HF rfl rfl (fun _ _ => (yfa 0 rfl (HF.ev rfl))) (fun _ => HS.out) ?_;clear HF a;intro a HF
     refine wm_y 1 rfl (by kernel_rfl) (by kernel_rfl) (by kernel_rfl) (fun _ _ _ h => h) (by decide) (by kernel_rfl) (by kernel_rfl) rfl HF rfl rfl (fun _ HS => (ylo (v := .slice (some ⟨gR, 0, none⟩) 3 cR) rfl (HF.ev rfl) (((HS.box 6 rfl).cell 0).trans rfl))) HS.out ?_;clear HF a;intro a HF
     refine wm_t 2 rfl (by kernel_rfl) (by kernel_rfl) (by kernel_rfl) (fun _ _ _ h => h) (by decide) rfl HF rfl rfl (fun _ _ => (yl_move rfl (HF.ev rfl))) (fun _ => HS.out) ?_;clear HF a;intro a HF
     refine wm_y 3 rfl (by kernel_rfl) (by kernel_rfl) (by kernel_rfl) (fun _ _ _ h => h) (by decide) (by kernel_rfl) (by kernel_rfl) rfl HF rfl rfl (fun _ HS => (yl_indexAddr (e := 94) (i := i) (size := 3) rfl (HF.ev rfl) (HF.ev rfl) (by kernel_rfl) rfl (by omega))) HS.out ?_;clear HF a;intro a HF
     refine wm_t 4 rfl (by kernel_rfl) (by kernel_rfl) (by kernel_rfl) (fun _ _ _ h => h) (by decide) rfl HF rfl rfl (fun _ _ => (yfa 0 rfl (HF.ev rfl))) (fun _ => HS.out) ?_;clear HF a;intro a HF
     refine wm_y 5 rfl (by kernel_rfl) (by kernel_rfl) (by kernel_rfl) (fun _ _ _ h => h) (by decide) (by kernel_rfl) (by kernel_rfl) rfl HF rfl rfl (fun _ HS => (ylo (v := .slice (some ⟨g12, 0, none⟩) yd.fCells.length yc) rfl (HF.ev rfl) (HS.elem HD.cells_len 7 rfl ((get_getD (xs := zs) (j := i) (d := default) (by omega)).trans (congrArg some hy.symm)) 0 _ rfl))) HS.out ?_;clear HF a;intro a HF
     refine wm_t 6 rfl (by kernel_rfl) (by kernel_rfl) (by kernel_rfl) (fun _ _ _ h => h) (by decide) rfl HF rfl rfl (fun _ _ => (yl_move rfl (HF.ev rfl))) (fun _ => HS.out) ?_;clear HF a;intro a HF
     refine wm_y 7 rfl (by kernel_rfl) (by kernel_rfl) (by kernel_rfl) (fun _ _ _ h => h) (by decide) (by kernel_rfl) (by kernel_rfl) rfl HF rfl rfl (fun _ HS => (yl_addI (r := ((4 + s : Nat) : Int)) rfl (HF.ev rfl) (HF.ev rfl) ((i64w (by omega)).trans (by omega)))) HS.out ?_;clear HF a;intro a HF
     refine wm_y 8 rfl (by kernel_rfl) (by kernel_rfl) (by kernel_rfl) (fun _ _ _ h => h) (by decide) (by kernel_rfl) (by kernel_rfl) rfl HF rfl rfl (fun _ HS => (yl_subI (r := ((3 + s : Nat) : Int)) rfl (HF.ev rfl) (HF.ev rfl) ((i64w (by omega)).trans (by omega)))) HS.out ?_;clear HF a;intro a HF
     refine wm_y 9 rfl (by kernel_rfl) (by kernel_rfl) (by kernel_rfl) (fun _ _ _ h => h) (by decide) (by kernel_rfl) (by kernel_rfl) rfl HF rfl rfl (fun _ HS => (ylr (cs := [.int .i64 ((lit10).getD dn4 0), .int .i64 (s : Int), .string dx5.fHead, .int .i64 dx5.fOp.fKind, .string dx5.fOp.fPath, .string dx5.fOp.fTo, .int .i64 dx5.fOp.fAt, .string dx5.fOp.fText]) rfl (HF.ev rfl) ((HS.box 4 rfl).sub 0 8))) HS.out ?_;clear HF a;intro a HF
     refine wm_one 10 (by kernel_rfl) ?_
     refine wo_callB rfl rfl HF rfl (enter_of Tryz.func89 (by kernel_rfl) rfl) (args := #[.agg #[.int .i64 ((lit10).getD dn4 0), .int .i64 (s : Int), .string dx5.fHead, .int .i64 dx5.fOp.fKind, .string dx5.fOp.fPath, .string dx5.fOp.fTo, .int .i64 dx5.fOp.fAt, .string dx5.fOp.fText]]) rfl (v := .string (intentB (⟨((lit10).getD dn4 0), (s : Int), dx5.fHead, dx5.fOp⟩ : IntentD))) (specIntentPut_any (⟨((lit10).getD dn4 0), (s : Int), dx5.fHead, dx5.fOp⟩ : IntentD) _ (IntentD.tiny.fits ⟨hxt5.h, hxt5.p, hxt5.t, hxt5.x⟩)) rfl rfl ?_; intro w24 hb; replace HS := Bx.mk (HS.out.later hb); replace HS2 := Bx.mk (HS2.out.later hb);clear hb HF a;intro a HF
     refine ⟨fun _ => HS.out, ?_⟩
     refine wm_y 11 rfl (by kernel_rfl) (by kernel_rfl) (by kernel_rfl) (fun _ _ _ h => h) (by decide) (by kernel_rfl) (by kernel_rfl) rfl HF rfl rfl (fun _ HS => (yl_indexAddr (e := 9) (i := 3 + s) (size := 1) rfl (HF.ev rfl) (HF.ev rfl) (by kernel_rfl) rfl (by omega))) HS.out ?_;clear HF a;intro a HF
     refine wm_one 12 (by kernel_rfl) ?_
     refine wo_storeE encS_len rfl rfl rfl rfl (HF.ev rfl) (HF.ev rfl) (by kernel_rfl) HS2.out 0 rfl (by omega) (z := (intentB (⟨((lit10).getD dn4 0), (s : Int), dx5.fHead, dx5.fOp⟩ : IntentD))) rfl rfl ?_
     clear HS2; intro w25 HS2; replace HS2 : Bx (St w0 (rowA encS 1 9 (.slice (some ⟨g12, 0, none⟩) yd.fCells.length yc) (yd.fCells.set (3 + s) (intentB (⟨((lit10).getD dn4 0), (s : Int), dx5.fHead, dx5.fOp⟩ : IntentD))) :: rowA WaitD.cells 2 137 (.slice yb yd.fWaits.length ye) yd.fWaits :: sepA ((zs.eraseIdx i).map HD.asr) :: rdA rb ab n cb (B + 1 + 200 * s + 140 + 1 + 1 * i + 1) :: boxA b6 8 55 (.agg #[.int .i64 ((lit10).getD dn4 0), .int .i64 (s : Int), .string dx5.fHead, .int .i64 dx5.fOp.fKind, .string dx5.fOp.fPath, .string dx5.fOp.fTo, .int .i64 dx5.fOp.fAt, .string dx5.fOp.fText]) :: rowA encI 1 3 (.slice (some ⟨b3, 0, none⟩) 5 5) (lit10) :: boxA b2 1 34 (.agg #[.slice (some ⟨gR, 0, none⟩) 3 cR]) :: rowA HD.cells 3 94 (.slice (some ⟨gR, 0, none⟩) 3 cR) zs :: boxA b1 1 34 (.agg #[.slice none 0 0]) :: F) _) := ⟨HS2⟩; refine ⟨(fun h => absurd (show true = false from h) (by decide)), ?_⟩
     refine wm_done (by kernel_rfl) ?_
     clear HS; have HS := HS2; clear HS2
     refine ex_block ?_
     refine ex_then ?_
     refine wp_region_lit ?_
     refine zm HF ?_;clear HF a;intro a HF
     refine zy HF (yl_addI rfl (HF.ev rfl) (HF.ev rfl) (i64w (by omega))) ?_;clear HF a;intro a HF
     refine za HF ?_;clear HF a;intro a HF
     refine wl_ne ?_
     replace HS:=Bx.mk ((((HS.out.pick 2 rfl).pick 2 rfl).pick 2 rfl).pick 7 rfl)
     replace HS := Bx.mk (St.cellIn (q := (⟨some ⟨g12, 0, none⟩, yc, yb, ye, yd⟩ : HD)) (by omega) hy HS.out)
     try dsimp only [List.eraseIdx] at HS
     have hnz : niceS 0 (dsOf (zs.set i ⟨some ⟨g12, 0, none⟩, yc, yb, ye, { yd with fCells := yd.fCells.set (3 + s) (intentB (⟨((lit10).getD dn4 0), (s : Int), dx5.fHead, dx5.fOp⟩ : IntentD)) }⟩)) := by rw [dsOf_set]; exact niceS_set hnz0 (nice_cell hny (Nat.le_trans (intentB_260 _) (by decide)))
     replace HS:=Bx.mk (HS.out.pick 2 rfl)
     replace HS : Bx (St w0 (rdA rb ab n cb (B + 1 + 200 * s + 140 + 1 + 1 * (i + 1)) :: rowA HD.cells 3 94 (.slice (some ⟨gR, 0, none⟩) 3 cR) (zs.set i ⟨some ⟨g12, 0, none⟩, yc, yb, ye, { yd with fCells := yd.fCells.set (3 + s) (intentB (⟨((lit10).getD dn4 0), (s : Int), dx5.fHead, dx5.fOp⟩ : IntentD)) }⟩) :: sepA ((zs.set i ⟨some ⟨g12, 0, none⟩, yc, yb, ye, { yd with fCells := yd.fCells.set (3 + s) (intentB (⟨((lit10).getD dn4 0), (s : Int), dx5.fHead, dx5.fOp⟩ : IntentD)) }⟩).map HD.asr) :: boxA b6 8 55 (.agg #[.int .i64 ((lit10).getD dn4 0), .int .i64 (s : Int), .string dx5.fHead, .int .i64 dx5.fOp.fKind, .string dx5.fOp.fPath, .string dx5.fOp.fTo, .int .i64 dx5.fOp.fAt, .string dx5.fOp.fText]) :: rowA encI 1 3 (.slice (some ⟨b3, 0, none⟩) 5 5) (lit10) :: boxA b2 1 34 (.agg #[.slice (some ⟨gR, 0, none⟩) 3 cR]) :: boxA b1 1 34 (.agg #[.slice none 0 0]) :: F) _) := ⟨HS.out.rdLe (by omega)⟩
     replace HS:=Bx.mk (((((((HS.out.pick 6 rfl).pick 3 rfl).pick 3 rfl).pick 6 rfl).pick 6 rfl).pick 6 rfl).pick 6 rfl)
     exact ⟨i + 1, ⟨zs.set i ⟨some ⟨g12, 0, none⟩, yc, yb, ye, { yd with fCells := yd.fCells.set (3 + s) (intentB (⟨((lit10).getD dn4 0), (s : Int), dx5.fHead, dx5.fOp⟩ : IntentD)) }⟩, ⟨by omega, hnz⟩, HF.less _ ⟨rfl, rfl, rfl, rfl, rfl, rfl, rfl, trivial⟩, HS.out⟩, (by omega)⟩
    ·clear HF;rename_i HF
     have dcc6 := of_decide_eq_false cc6
     refine wc_false HF rfl ?_
     refine wp_skip ?_
     refine ex_block ?_
     refine ex_then ?_
     refine wp_region_lit ?_
     refine zm HF ?_;clear HF a;intro a HF
     refine zy HF (yl_addI rfl (HF.ev rfl) (HF.ev rfl) (i64w (by omega))) ?_;clear HF a;intro a HF
     refine za HF ?_;clear HF a;intro a HF
     refine wl_ne ?_
     replace HS:=Bx.mk (HS.out.pick 0 rfl)
     replace HS : Bx (St w0 (rdA rb ab n cb (B + 1 + 200 * s + 140 + 1 + 1 * (i + 1)) :: boxA b6 8 55 (.agg #[.int .i64 ((lit10).getD dn4 0), .int .i64 (s : Int), .string dx5.fHead, .int .i64 dx5.fOp.fKind, .string dx5.fOp.fPath, .string dx5.fOp.fTo, .int .i64 dx5.fOp.fAt, .string dx5.fOp.fText]) :: rowA encI 1 3 (.slice (some ⟨b3, 0, none⟩) 5 5) (lit10) :: boxA b2 1 34 (.agg #[.slice (some ⟨gR, 0, none⟩) 3 cR]) :: rowA HD.cells 3 94 (.slice (some ⟨gR, 0, none⟩) 3 cR) zs :: sepA (zs.map HD.asr) :: boxA b1 1 34 (.agg #[.slice none 0 0]) :: F) _) := ⟨HS.out.rdLe (by omega)⟩
     exact ⟨i + 1, ⟨zs, ⟨by omega, hnz0⟩, HF.less _ ⟨rfl, rfl, rfl, rfl, rfl, rfl, rfl, trivial⟩, HS.out⟩, (by omega)⟩
   ·clear HF;rename_i HF
    have dcc5 := of_decide_eq_false cc5
    refine wc_false HF rfl ?_
    refine wp_exit ?_
    refine ex_then_exit ?_
    refine ex_then_exit ?_
    refine ex_block_hit ?_
    refine ex_block ?_
    refine ex_then ?_
    refine wp_region_lit ?_
    refine zm HF ?_;clear HF a;intro a HF
    refine zy HF (yl_addI rfl (HF.ev rfl) (HF.ev rfl) (i64w (by omega))) ?_;clear HF a;intro a HF
    refine za HF ?_;clear HF a;intro a HF
    refine wl_ne ?_
    replace HS:=Bx.mk (HS.out.pick 0 rfl)
    replace HS : Bx (St w0 (rdA rb ab n cb (B + 1 + 200 * (s + 1)) :: boxA b6 8 55 (.agg #[.int .i64 ((lit10).getD dn4 0), .int .i64 (s : Int), .string dx5.fHead, .int .i64 dx5.fOp.fKind, .string dx5.fOp.fPath, .string dx5.fOp.fTo, .int .i64 dx5.fOp.fAt, .string dx5.fOp.fText]) :: rowA encI 1 3 (.slice (some ⟨b3, 0, none⟩) 5 5) (lit10) :: boxA b2 1 34 (.agg #[.slice (some ⟨gR, 0, none⟩) 3 cR]) :: rowA HD.cells 3 94 (.slice (some ⟨gR, 0, none⟩) 3 cR) zs :: sepA (zs.map HD.asr) :: boxA b1 1 34 (.agg #[.slice none 0 0]) :: F) _) := ⟨HS.out.rdLe (by omega)⟩
    replace HS:=Bx.mk ((((((HS.out.pick 6 rfl).pick 6 rfl).pick 6 rfl).pick 6 rfl).pick 6 rfl).pick 5 rfl)
    exact ⟨s + 1, ⟨zs, ⟨by omega, by omega, hnz0⟩, HF.less _ ⟨rfl, rfl, rfl, rfl, rfl, trivial⟩, (HS.out.erase 6)⟩, (by omega)⟩
 ·clear HF;rename_i HF
  have dcc1 := of_decide_eq_false cc1
  refine wc_false HF rfl ?_
  refine wp_exit ?_
  refine ex_then_exit ?_
  refine ex_then_exit ?_
  refine ex_block_hit ?_
  refine ex_then ?_
  refine wp_seq ?_
  refine wp_sr ?_
  refine zm HF ?_;clear HF a;intro a HF
  replace HS:=Bx.mk (HS.out.pick 0 rfl)
  refine wl_call rfl HF rfl (enter_of Tryz.func94 (by kernel_rfl) rfl) (args := #[.pointer (some ⟨rb, 0, none⟩), .int .i64 8]) rfl (pickN w0 _ rb ab n cb bs hn hR (B + 1 + 200 * s) (by omega) 8 (by omega) _ HS.out) rfl rfl ?_
  rintro _ w26 ⟨dn13, rfl, hu13, hs1⟩
  refine ⟨_, rfl, ?_⟩; replace HS := Bx.mk hs1;clear hs1 HF a;intro a HF
  try dsimp only [List.eraseIdx] at HS
  refine wl_ne ?_
  refine wp_block ?_
  refine wp_sr ?_
  refine zy HF (yl_eqlI rfl (HF.ev rfl) (HF.ev rfl)) ?_;clear HF a;intro a HF
  refine za HF ?_;clear HF a;intro a HF
  refine wl_ne ?_
  refine HF.cases 54 rfl (fun cc7 _ => ?_) fun cc7 _ => ?_
  ·clear HF;rename_i HF
   have dcc7 := eq_of_beq cc7
   refine wc_true HF rfl ?_
   refine wr_marked (W := w0) (s := rowA encI 1 3 (.slice (some ⟨b3, 0, none⟩) 5 5) (lit10) :: boxA b2 1 34 (.agg #[.slice (some ⟨gR, 0, none⟩) 3 cR]) :: rowA HD.cells 3 94 (.slice (some ⟨gR, 0, none⟩) 3 cR) qs :: sepA (qs.map HD.asr) :: boxA b1 1 34 (.agg #[.slice none 0 0]) :: F) 6 (by kernel_rfl) ?_
   have HS2 := Bx.mk HS.out.drew; replace HS := Bx.mk (show St w0 (rowA encI 1 3 (.slice (some ⟨b3, 0, none⟩) 5 5) (lit10) :: boxA b2 1 34 (.agg #[.slice (some ⟨gR, 0, none⟩) 3 cR]) :: rowA HD.cells 3 94 (.slice (some ⟨gR, 0, none⟩) 3 cR) qs :: sepA (qs.map HD.asr) :: boxA b1 1 34 (.agg #[.slice none 0 0]) :: F) _ from (HS.out.drew.erase 0)); generalize World.drew _ = w27 at HS HS2 ⊢
   refine wm_t 0 rfl (by kernel_rfl) (by kernel_rfl) (by kernel_rfl) (fun _ _ _ h => h) (by decide) rfl HF rfl rfl (fun _ _ => (yfa 0 rfl (HF.ev rfl))) (fun _ => HS.out) ?_;clear HF a;intro a HF
   refine wm_y 1 rfl (by kernel_rfl) (by kernel_rfl) (by kernel_rfl) (fun _ _ _ h => h) (by decide) (by kernel_rfl) (by kernel_rfl) rfl HF rfl rfl (fun _ HS => (ylo (v := .slice (some ⟨gR, 0, none⟩) 3 cR) rfl (HF.ev rfl) (((HS.box 1 rfl).cell 0).trans rfl))) HS.out ?_;clear HF a;intro a HF
   refine wm_t 2 rfl (by kernel_rfl) (by kernel_rfl) (by kernel_rfl) (fun _ _ _ h => h) (by decide) rfl HF rfl rfl (fun _ _ => (yl_move rfl (HF.ev rfl))) (fun _ => HS.out) ?_;clear HF a;intro a HF
   refine wm_one 3 (by kernel_rfl) ?_
   replace HS2:=Bx.mk (HS2.out.pick 0 rfl)
   refine wo_call rfl rfl HF rfl (enter_of Tryz.func94 (by kernel_rfl) rfl) (args := #[.pointer (some ⟨rb, 0, none⟩), .int .i64 3]) rfl (pickN w0 _ rb ab n cb bs hn hR (B + 1 + 200 * s + 1) (by omega) 3 (by omega) _ HS2.out) rfl rfl ?_
   rintro _ w28 ⟨dn14, rfl, hu14, hs1⟩
   refine ⟨_, rfl, ?_⟩; replace HS2 := Bx.mk hs1;clear hs1 HF a;intro a HF
   replace HS2 : Bx (St w0 (rdA rb ab n cb (B + 1 + 200 * s + 1 + 1) :: rowA encI 1 3 (.slice (some ⟨b3, 0, none⟩) 5 5) (lit10) :: boxA b2 1 34 (.agg #[.slice (some ⟨gR, 0, none⟩) 3 cR]) :: rowA HD.cells 3 94 (.slice (some ⟨gR, 0, none⟩) 3 cR) qs :: sepA (qs.map HD.asr) :: boxA b1 1 34 (.agg #[.slice none 0 0]) :: F) _) := ⟨HS2.out⟩
   clear HS; have HS : Bx (St w0 (rowA encI 1 3 (.slice (some ⟨b3, 0, none⟩) 5 5) (lit10) :: boxA b2 1 34 (.agg #[.slice (some ⟨gR, 0, none⟩) 3 cR]) :: rowA HD.cells 3 94 (.slice (some ⟨gR, 0, none⟩) 3 cR) qs :: sepA (qs.map HD.asr) :: boxA b1 1 34 (.agg #[.slice none 0 0]) :: F) _) := ⟨(HS2.out.erase 0)⟩
   refine ⟨fun _ => HS.out, ?_⟩
   refine wm_one 4 (by kernel_rfl) ?_
   refine wo_call rfl rfl HF rfl (enter_of Tryz.func95 (by kernel_rfl) rfl) (args := #[]) rfl (specLose_any _) rfl rfl ?_
   rintro _ w29 ⟨⟨qa15, qc15, qb15, qe15, qd⟩, hqd, rfl, hs⟩; obtain rfl : qd = lostD := hqd; refine ⟨_, rfl, ?_⟩
   replace HS := Bx.mk (HS.out.later hs.bel)
   replace HS2 := Bx.mk ((HS2.out.add hs));clear hs HF a;intro a HF
   replace HS2 : Bx (St w0 (HD.asr ⟨qa15, qc15, qb15, qe15, lostD⟩ :: rdA rb ab n cb (B + 1 + 200 * s + 1 + 1) :: rowA encI 1 3 (.slice (some ⟨b3, 0, none⟩) 5 5) (lit10) :: boxA b2 1 34 (.agg #[.slice (some ⟨gR, 0, none⟩) 3 cR]) :: rowA HD.cells 3 94 (.slice (some ⟨gR, 0, none⟩) 3 cR) qs :: sepA (qs.map HD.asr) :: boxA b1 1 34 (.agg #[.slice none 0 0]) :: F) _) := ⟨HS2.out⟩
   refine ⟨fun _ => HS.out, ?_⟩
   refine wm_y 5 rfl (by kernel_rfl) (by kernel_rfl) (by kernel_rfl) (fun _ _ _ h => h) (by decide) (by kernel_rfl) (by kernel_rfl) rfl HF rfl rfl (fun _ HS => (yl_indexAddr (e := 94) (i := dn14) (size := 3) rfl (HF.ev rfl) (HF.ev rfl) (by kernel_rfl) rfl (by omega))) HS.out ?_;clear HF a;intro a HF
   refine wm_one 6 (by kernel_rfl) ?_
   refine wo_storeEn HD.cells_len rfl rfl rfl rfl (HF.ev rfl) (HF.ev rfl) (by kernel_rfl) HS2.out 4 rfl (by omega) (z := (⟨qa15, qc15, qb15, qe15, lostD⟩ : HD)) rfl (by first | rfl | simp [Value.oneCell']) ?_
   clear HS2; intro w30 HS2; replace HS2 : Bx (St w0 (HD.asr ⟨qa15, qc15, qb15, qe15, lostD⟩ :: rdA rb ab n cb (B + 1 + 200 * s + 1 + 1) :: rowA encI 1 3 (.slice (some ⟨b3, 0, none⟩) 5 5) (lit10) :: boxA b2 1 34 (.agg #[.slice (some ⟨gR, 0, none⟩) 3 cR]) :: rowA HD.cells 3 94 (.slice (some ⟨gR, 0, none⟩) 3 cR) (qs.set dn14 (⟨qa15, qc15, qb15, qe15, lostD⟩ : HD)) :: sepA (qs.map HD.asr) :: boxA b1 1 34 (.agg #[.slice none 0 0]) :: F) _) := ⟨HS2⟩; refine ⟨(fun h => absurd (show true = false from h) (by decide)), ?_⟩
   refine wm_done (by kernel_rfl) ?_
   clear HS; have HS := HS2; clear HS2
   refine ex_block ?_
   refine ex_then ?_
   refine wp_sr ?_
   refine zy HF (ylr (cs := [.slice (some ⟨gR, 0, none⟩) 3 cR]) rfl (HF.ev rfl) ((HS.out.box 3 rfl).sub 0 1)) ?_;clear HF a;intro a HF
   refine wl_storeBox rfl HF rfl rfl (HF.ev rfl) (HF.ev rfl) HS.out 6 rfl (cells_lit [.slice (some ⟨gR, 0, none⟩) 3 cR] rfl rfl) (by kernel_rfl) ?_; clear HS; intro w31 HS; replace HS := Bx.mk HS
   have HS : Bx (St w0 (HD.asr ⟨qa15, qc15, qb15, qe15, lostD⟩ :: rdA rb ab n cb (B + 1 + 200 * s + 1 + 1) :: rowA encI 1 3 (.slice (some ⟨b3, 0, none⟩) 5 5) (lit10) :: boxA b2 1 34 (.agg #[.slice (some ⟨gR, 0, none⟩) 3 cR]) :: rowA HD.cells 3 94 (.slice (some ⟨gR, 0, none⟩) 3 cR) (qs.set dn14 (⟨qa15, qc15, qb15, qe15, lostD⟩ : HD)) :: sepA (qs.map HD.asr) :: boxA b1 1 34 (.agg #[.slice (some ⟨gR, 0, none⟩) 3 cR]) :: F) _) := HS
   refine wl_ne ?_
   refine wp_ret ?_
   refine bp_ret1 HF Tryz.results56 (HF.resBox rfl (HS.out.box 6 rfl) (by kernel_rfl)) ?_
   replace HS:=Bx.mk (((HS.out.pick 0 rfl).pick 5 rfl).pick 5 rfl)
   replace HS := Bx.mk (St.swap (((St.join (r := [_, _])).1 ((HS.out.pick 1 rfl).pick 2 rfl)).hold (P := allP (qs.set dn14 (⟨qa15, qc15, qb15, qe15, lostD⟩ : HD))) (sep2 (fun w f h => HD.asr_reads1 h) (fun w f h => hds_allP h) (fun w h1 h2 => allP_set h2 h1))))
   have hfl : fitsL (qs.set dn14 (⟨qa15, qc15, qb15, qe15, lostD⟩ : HD)) := (niceS.fitsL hni (by omega)).set lost_fits _; have hxl : (qs.set dn14 (⟨qa15, qc15, qb15, qe15, lostD⟩ : HD)).length = 3 := by rw [List.length_set]; exact hni.len
   try dsimp only [List.eraseIdx] at HS
   replace HS:=Bx.mk (((HS.out.pick 2 rfl).pick 2 rfl).pick 2 rfl)
   have HT := (raid_hold (ps := qs.set dn14 (⟨qa15, qc15, qb15, qe15, lostD⟩ : HD)) hxl.symm HS.out).swap.rdLe (B' := B + 2500) (by omega)
   exact ⟨_, _, qs.set dn14 (⟨qa15, qc15, qb15, qe15, lostD⟩ : HD), by rw [hxl], hxl, hfl, (((HT.erase 4).erase 3).erase 2)⟩
  ·clear HF;rename_i HF
   have dcc7 := ne_of_beq_false cc7
   refine wc_false HF rfl ?_
   refine wp_sr ?_
   refine zy HF (yl_eqlI rfl (HF.ev rfl) (HF.ev rfl)) ?_;clear HF a;intro a HF
   refine za HF ?_;clear HF a;intro a HF
   refine wl_ne ?_
   refine HF.cases 62 rfl (fun cc8 _ => ?_) fun cc8 _ => ?_
   ·clear HF;rename_i HF
    have dcc8 := eq_of_beq cc8
    refine wc_true HF rfl ?_
    refine wp_sr ?_
    refine zm HF ?_;clear HF a;intro a HF
    replace HS:=Bx.mk (HS.out.pick 0 rfl)
    refine wl_call rfl HF rfl (enter_of Tryz.func94 (by kernel_rfl) rfl) (args := #[.pointer (some ⟨rb, 0, none⟩), .int .i64 3]) rfl (pickN w0 _ rb ab n cb bs hn hR (B + 1 + 200 * s + 1) (by omega) 3 (by omega) _ HS.out) rfl rfl ?_
    rintro _ w32 ⟨dn16, rfl, hu16, hs1⟩
    refine ⟨_, rfl, ?_⟩; replace HS := Bx.mk hs1;clear hs1 HF a;intro a HF
    try dsimp only [List.eraseIdx] at HS
    refine za HF ?_;clear HF a;intro a HF
    refine wl_ne ?_
    refine wp_sr ?_
    refine zm HF ?_;clear HF a;intro a HF
    replace HS:=Bx.mk (HS.out.pick 0 rfl)
    refine wl_call rfl HF rfl (enter_of Tryz.func94 (by kernel_rfl) rfl) (args := #[.pointer (some ⟨rb, 0, none⟩), .int .i64 4]) rfl (pickN w0 _ rb ab n cb bs hn hR (B + 1 + 200 * s + 1 + 1) (by omega) 4 (by omega) _ HS.out) rfl rfl ?_
    rintro _ w33 ⟨dn17, rfl, hu17, hs1⟩
    refine ⟨_, rfl, ?_⟩; replace HS := Bx.mk hs1;clear hs1 HF a;intro a HF
    try dsimp only [List.eraseIdx] at HS
    refine zy HF (yl_addI rfl (HF.ev rfl) (HF.ev rfl) (i64w (by omega))) ?_;clear HF a;intro a HF
    refine za HF ?_;clear HF a;intro a HF
    refine wl_ne ?_
    replace HS:=Bx.mk (HS.out.pick 4 rfl)
    replace HS := Bx.mk (HS.out.hdOut dn16 (by omega))
    obtain ⟨⟨ya, yc, yb, ye, yd⟩, hy⟩ : ∃ q : HD, q = qs.getD dn16 default := ⟨_, rfl⟩; rw [← hy] at HS
    have hny : yd.nice 0 := by have h := hni.get (k := dn16) (by omega); rw [← hy] at h; exact h
    have hyc := hny.c; replace HS := Bx.mk ((St.join (r := [_, _])).2 HS.out)
    try dsimp only [List.eraseIdx] at HS
    obtain ⟨g18, rfl, _, _, _, _⟩ := HS.out.rowOpen 0 rfl (by omega)
    have hzc := getD_le hny.z
    have hz1 := hzc (4 + dn17)
    refine wr_marked (W := w0) (s := rowA encS 1 9 (.slice (some ⟨g18, 0, none⟩) yd.fCells.length yc) yd.fCells :: rowA WaitD.cells 2 137 (.slice yb yd.fWaits.length ye) yd.fWaits :: sepA ((qs.eraseIdx dn16).map HD.asr) :: rowA encI 1 3 (.slice (some ⟨b3, 0, none⟩) 5 5) (lit10) :: boxA b2 1 34 (.agg #[.slice (some ⟨gR, 0, none⟩) 3 cR]) :: rowA HD.cells 3 94 (.slice (some ⟨gR, 0, none⟩) 3 cR) qs :: boxA b1 1 34 (.agg #[.slice none 0 0]) :: F) 19 (by kernel_rfl) ?_
    have HS2 := Bx.mk HS.out.drew; replace HS := Bx.mk (show St w0 (rowA encS 1 9 (.slice (some ⟨g18, 0, none⟩) yd.fCells.length yc) yd.fCells :: rowA WaitD.cells 2 137 (.slice yb yd.fWaits.length ye) yd.fWaits :: sepA ((qs.eraseIdx dn16).map HD.asr) :: rowA encI 1 3 (.slice (some ⟨b3, 0, none⟩) 5 5) (lit10) :: boxA b2 1 34 (.agg #[.slice (some ⟨gR, 0, none⟩) 3 cR]) :: rowA HD.cells 3 94 (.slice (some ⟨gR, 0, none⟩) 3 cR) qs :: boxA b1 1 34 (.agg #[.slice none 0 0]) :: F) _ from (HS.out.drew.erase 3)); generalize World.drew _ = w34 at HS HS2 ⊢
    refine wm_t 0 rfl (by kernel_rfl) (by kernel_rfl) (by kernel_rfl) (fun _ _ _ h => h) (by decide) rfl HF rfl rfl (fun _ _ => (yfa 0 rfl (HF.ev rfl))) (fun _ => HS.out) ?_;clear HF a;intro a HF
    refine wm_y 1 rfl (by kernel_rfl) (by kernel_rfl) (by kernel_rfl) (fun _ _ _ h => h) (by decide) (by kernel_rfl) (by kernel_rfl) rfl HF rfl rfl (fun _ HS => (ylo (v := .slice (some ⟨gR, 0, none⟩) 3 cR) rfl (HF.ev rfl) (((HS.box 4 rfl).cell 0).trans rfl))) HS.out ?_;clear HF a;intro a HF
    refine wm_t 2 rfl (by kernel_rfl) (by kernel_rfl) (by kernel_rfl) (fun _ _ _ h => h) (by decide) rfl HF rfl rfl (fun _ _ => (yl_move rfl (HF.ev rfl))) (fun _ => HS.out) ?_;clear HF a;intro a HF
    refine wm_y 3 rfl (by kernel_rfl) (by kernel_rfl) (by kernel_rfl) (fun _ _ _ h => h) (by decide) (by kernel_rfl) (by kernel_rfl) rfl HF rfl rfl (fun _ HS => (yl_indexAddr (e := 94) (i := dn16) (size := 3) rfl (HF.ev rfl) (HF.ev rfl) (by kernel_rfl) rfl (by omega))) HS.out ?_;clear HF a;intro a HF
    refine wm_t 4 rfl (by kernel_rfl) (by kernel_rfl) (by kernel_rfl) (fun _ _ _ h => h) (by decide) rfl HF rfl rfl (fun _ _ => (yfa 0 rfl (HF.ev rfl))) (fun _ => HS.out) ?_;clear HF a;intro a HF
    refine wm_y 5 rfl (by kernel_rfl) (by kernel_rfl) (by kernel_rfl) (fun _ _ _ h => h) (by decide) (by kernel_rfl) (by kernel_rfl) rfl HF rfl rfl (fun _ HS => (ylo (v := .slice (some ⟨g18, 0, none⟩) yd.fCells.length yc) rfl (HF.ev rfl) (HS.elem HD.cells_len 5 rfl ((get_getD (xs := qs) (j := dn16) (d := default) (by omega)).trans (congrArg some hy.symm)) 0 _ rfl))) HS.out ?_;clear HF a;intro a HF
    refine wm_t 6 rfl (by kernel_rfl) (by kernel_rfl) (by kernel_rfl) (fun _ _ _ h => h) (by decide) rfl HF rfl rfl (fun _ _ => (yl_move rfl (HF.ev rfl))) (fun _ => HS.out) ?_;clear HF a;intro a HF
    refine wm_t 7 rfl (by kernel_rfl) (by kernel_rfl) (by kernel_rfl) (fun _ _ _ h => h) (by decide) rfl HF rfl rfl (fun _ _ => (yl_move rfl (HF.ev rfl))) (fun _ => HS.out) ?_;clear HF a;intro a HF
    refine wm_t 8 rfl (by kernel_rfl) (by kernel_rfl) (by kernel_rfl) (fun _ _ _ h => h) (by decide) rfl HF rfl rfl (fun _ _ => (yfa 0 rfl (HF.ev rfl))) (fun _ => HS.out) ?_;clear HF a;intro a HF
    refine wm_y 9 rfl (by kernel_rfl) (by kernel_rfl) (by kernel_rfl) (fun _ _ _ h => h) (by decide) (by kernel_rfl) (by kernel_rfl) rfl HF rfl rfl (fun _ HS => (ylo (v := .slice (some ⟨gR, 0, none⟩) 3 cR) rfl (HF.ev rfl) (((HS.box 4 rfl).cell 0).trans rfl))) HS.out ?_;clear HF a;intro a HF
    refine wm_t 10 rfl (by kernel_rfl) (by kernel_rfl) (by kernel_rfl) (fun _ _ _ h => h) (by decide) rfl HF rfl rfl (fun _ _ => (yl_move rfl (HF.ev rfl))) (fun _ => HS.out) ?_;clear HF a;intro a HF
    refine wm_y 11 rfl (by kernel_rfl) (by kernel_rfl) (by kernel_rfl) (fun _ _ _ h => h) (by decide) (by kernel_rfl) (by kernel_rfl) rfl HF rfl rfl (fun _ HS => (yl_indexAddr (e := 94) (i := dn16) (size := 3) rfl (HF.ev rfl) (HF.ev rfl) (by kernel_rfl) rfl (by omega))) HS.out ?_;clear HF a;intro a HF
    refine wm_t 12 rfl (by kernel_rfl) (by kernel_rfl) (by kernel_rfl) (fun _ _ _ h => h) (by decide) rfl HF rfl rfl (fun _ _ => (yfa 0 rfl (HF.ev rfl))) (fun _ => HS.out) ?_;clear HF a;intro a HF
    refine wm_y 13 rfl (by kernel_rfl) (by kernel_rfl) (by kernel_rfl) (fun _ _ _ h => h) (by decide) (by kernel_rfl) (by kernel_rfl) rfl HF rfl rfl (fun _ HS => (ylo (v := .slice (some ⟨g18, 0, none⟩) yd.fCells.length yc) rfl (HF.ev rfl) (HS.elem HD.cells_len 5 rfl ((get_getD (xs := qs) (j := dn16) (d := default) (by omega)).trans (congrArg some hy.symm)) 0 _ rfl))) HS.out ?_;clear HF a;intro a HF
    refine wm_t 14 rfl (by kernel_rfl) (by kernel_rfl) (by kernel_rfl) (fun _ _ _ h => h) (by decide) rfl HF rfl rfl (fun _ _ => (yl_move rfl (HF.ev rfl))) (fun _ => HS.out) ?_;clear HF a;intro a HF
    refine wm_y 15 rfl (by kernel_rfl) (by kernel_rfl) (by kernel_rfl) (fun _ _ _ h => h) (by decide) (by kernel_rfl) (by kernel_rfl) rfl HF rfl rfl (fun _ HS => (yl_indexAddr (e := 9) (i := 4 + dn17) (size := 1) rfl (HF.ev rfl) (HF.ev rfl) (by kernel_rfl) rfl (by omega))) HS.out ?_;clear HF a;intro a HF
    refine wm_y 16 rfl (by kernel_rfl) (by kernel_rfl) (by kernel_rfl) (fun _ _ _ h => h) (by decide) (by kernel_rfl) (by kernel_rfl) rfl HF rfl rfl (fun _ HS => (ylo (v := .string (yd.fCells.getD (4 + dn17) ByteArray.empty)) rfl (HF.ev rfl) (HS.elem1 encS_len 0 rfl (get_getD (xs := yd.fCells) (j := 4 + dn17) (d := ByteArray.empty) (by omega)) rfl))) HS.out ?_;clear HF a;intro a HF
    refine wm_one 17 (by kernel_rfl) ?_
    replace HS2:=Bx.mk (HS2.out.pick 3 rfl)
    refine wo_call rfl rfl HF rfl (enter_of Tryz.func96 (by kernel_rfl) rfl) (args := #[.pointer (some ⟨rb, 0, none⟩), .string (yd.fCells.getD (4 + dn17) ByteArray.empty)]) rfl (l91Spoil_any w0 _ rb ab n cb bs hn hR (B + 1 + 200 * s + 1 + 1 + 1) (by omega) (yd.fCells.getD (4 + dn17) ByteArray.empty) (by omega) _ HS2.out) rfl rfl ?_
    rintro _ w35 ⟨dt19, rfl, ht19, hs1⟩
    refine ⟨_, rfl, ?_⟩; replace HS2 := Bx.mk hs1;clear hs1 HF a;intro a HF
    replace HS2 : Bx (St w0 (rdA rb ab n cb (B + 1 + 200 * s + 1 + 1 + 1 + 20) :: rowA encS 1 9 (.slice (some ⟨g18, 0, none⟩) yd.fCells.length yc) yd.fCells :: rowA WaitD.cells 2 137 (.slice yb yd.fWaits.length ye) yd.fWaits :: sepA ((qs.eraseIdx dn16).map HD.asr) :: rowA encI 1 3 (.slice (some ⟨b3, 0, none⟩) 5 5) (lit10) :: boxA b2 1 34 (.agg #[.slice (some ⟨gR, 0, none⟩) 3 cR]) :: rowA HD.cells 3 94 (.slice (some ⟨gR, 0, none⟩) 3 cR) qs :: boxA b1 1 34 (.agg #[.slice none 0 0]) :: F) _) := ⟨HS2.out⟩
    clear HS; have HS : Bx (St w0 (rowA encS 1 9 (.slice (some ⟨g18, 0, none⟩) yd.fCells.length yc) yd.fCells :: rowA WaitD.cells 2 137 (.slice yb yd.fWaits.length ye) yd.fWaits :: sepA ((qs.eraseIdx dn16).map HD.asr) :: rowA encI 1 3 (.slice (some ⟨b3, 0, none⟩) 5 5) (lit10) :: boxA b2 1 34 (.agg #[.slice (some ⟨gR, 0, none⟩) 3 cR]) :: rowA HD.cells 3 94 (.slice (some ⟨gR, 0, none⟩) 3 cR) qs :: boxA b1 1 34 (.agg #[.slice none 0 0]) :: F) _) := ⟨(HS2.out.erase 0)⟩
    refine ⟨fun _ => HS.out, ?_⟩
    refine wm_y 18 rfl (by kernel_rfl) (by kernel_rfl) (by kernel_rfl) (fun _ _ _ h => h) (by decide) (by kernel_rfl) (by kernel_rfl) rfl HF rfl rfl (fun _ HS => (yl_indexAddr (e := 9) (i := 4 + dn17) (size := 1) rfl (HF.ev rfl) (HF.ev rfl) (by kernel_rfl) rfl (by omega))) HS.out ?_;clear HF a;intro a HF
    refine wm_one 19 (by kernel_rfl) ?_
    refine wo_storeE encS_len rfl rfl rfl rfl (HF.ev rfl) (HF.ev rfl) (by kernel_rfl) HS2.out 1 rfl (by omega) (z := dt19) rfl rfl ?_
    clear HS2; intro w36 HS2; replace HS2 : Bx (St w0 (rdA rb ab n cb (B + 1 + 200 * s + 1 + 1 + 1 + 20) :: rowA encS 1 9 (.slice (some ⟨g18, 0, none⟩) yd.fCells.length yc) (yd.fCells.set (4 + dn17) dt19) :: rowA WaitD.cells 2 137 (.slice yb yd.fWaits.length ye) yd.fWaits :: sepA ((qs.eraseIdx dn16).map HD.asr) :: rowA encI 1 3 (.slice (some ⟨b3, 0, none⟩) 5 5) (lit10) :: boxA b2 1 34 (.agg #[.slice (some ⟨gR, 0, none⟩) 3 cR]) :: rowA HD.cells 3 94 (.slice (some ⟨gR, 0, none⟩) 3 cR) qs :: boxA b1 1 34 (.agg #[.slice none 0 0]) :: F) _) := ⟨HS2⟩; refine ⟨(fun h => absurd (show true = false from h) (by decide)), ?_⟩
    refine wm_done (by kernel_rfl) ?_
    clear HS; have HS := HS2; clear HS2
    refine ex_block ?_
    refine ex_then ?_
    refine wp_sr ?_
    refine zy HF (ylr (cs := [.slice (some ⟨gR, 0, none⟩) 3 cR]) rfl (HF.ev rfl) ((HS.out.box 5 rfl).sub 0 1)) ?_;clear HF a;intro a HF
    refine wl_storeBox rfl HF rfl rfl (HF.ev rfl) (HF.ev rfl) HS.out 7 rfl (cells_lit [.slice (some ⟨gR, 0, none⟩) 3 cR] rfl rfl) (by kernel_rfl) ?_; clear HS; intro w37 HS; replace HS := Bx.mk HS
    have HS : Bx (St w0 (rdA rb ab n cb (B + 1 + 200 * s + 1 + 1 + 1 + 20) :: rowA encS 1 9 (.slice (some ⟨g18, 0, none⟩) yd.fCells.length yc) (yd.fCells.set (4 + dn17) dt19) :: rowA WaitD.cells 2 137 (.slice yb yd.fWaits.length ye) yd.fWaits :: sepA ((qs.eraseIdx dn16).map HD.asr) :: rowA encI 1 3 (.slice (some ⟨b3, 0, none⟩) 5 5) (lit10) :: boxA b2 1 34 (.agg #[.slice (some ⟨gR, 0, none⟩) 3 cR]) :: rowA HD.cells 3 94 (.slice (some ⟨gR, 0, none⟩) 3 cR) qs :: boxA b1 1 34 (.agg #[.slice (some ⟨gR, 0, none⟩) 3 cR]) :: F) _) := HS
    refine wl_ne ?_
    refine wp_ret ?_
    refine bp_ret1 HF Tryz.results56 (HF.resBox rfl (HS.out.box 7 rfl) (by kernel_rfl)) ?_
    replace HS:=Bx.mk ((((HS.out.pick 3 rfl).pick 3 rfl).pick 3 rfl).pick 6 rfl)
    replace HS := Bx.mk (St.cellIn (q := (⟨some ⟨g18, 0, none⟩, yc, yb, ye, yd⟩ : HD)) (by omega) hy HS.out)
    try dsimp only [List.eraseIdx] at HS
    replace HS:=Bx.mk ((HS.out.pick 0 rfl).pick 1 rfl)
    replace HS := Bx.mk (St.swap (HS.out.hold (P := allP (qs.set dn16 ⟨some ⟨g18, 0, none⟩, yc, yb, ye, { yd with fCells := yd.fCells.set (4 + dn17) dt19 }⟩)) (fun w f h => hds_allP h)))
    have hfl : fitsL (qs.set dn16 ⟨some ⟨g18, 0, none⟩, yc, yb, ye, { yd with fCells := yd.fCells.set (4 + dn17) dt19 }⟩) := (niceS.fitsL hni (by omega)).set (fits_cell hny (by omega) (by omega)) _; have hxl : (qs.set dn16 ⟨some ⟨g18, 0, none⟩, yc, yb, ye, { yd with fCells := yd.fCells.set (4 + dn17) dt19 }⟩).length = 3 := by rw [List.length_set]; exact hni.len
    try dsimp only [List.eraseIdx] at HS
    replace HS:=Bx.mk (((HS.out.pick 2 rfl).pick 2 rfl).pick 2 rfl)
    have HT := (raid_hold (ps := qs.set dn16 ⟨some ⟨g18, 0, none⟩, yc, yb, ye, { yd with fCells := yd.fCells.set (4 + dn17) dt19 }⟩) hxl.symm HS.out).swap.rdLe (B' := B + 2500) (by omega)
    exact ⟨_, _, qs.set dn16 ⟨some ⟨g18, 0, none⟩, yc, yb, ye, { yd with fCells := yd.fCells.set (4 + dn17) dt19 }⟩, by rw [hxl], hxl, hfl, (((HT.erase 4).erase 3).erase 2)⟩
   ·clear HF;rename_i HF
    have dcc8 := ne_of_beq_false cc8
    refine wc_false HF rfl ?_
    refine wp_skip ?_
    refine ex_block ?_
    refine ex_then ?_
    refine wp_sr ?_
    refine zy HF (ylr (cs := [.slice (some ⟨gR, 0, none⟩) 3 cR]) rfl (HF.ev rfl) ((HS.out.box 2 rfl).sub 0 1)) ?_;clear HF a;intro a HF
    refine wl_storeBox rfl HF rfl rfl (HF.ev rfl) (HF.ev rfl) HS.out 5 rfl (cells_lit [.slice (some ⟨gR, 0, none⟩) 3 cR] rfl rfl) (by kernel_rfl) ?_; clear HS; intro w38 HS; replace HS := Bx.mk HS
    have HS : Bx (St w0 (rdA rb ab n cb (B + 1 + 200 * s + 1) :: rowA encI 1 3 (.slice (some ⟨b3, 0, none⟩) 5 5) (lit10) :: boxA b2 1 34 (.agg #[.slice (some ⟨gR, 0, none⟩) 3 cR]) :: rowA HD.cells 3 94 (.slice (some ⟨gR, 0, none⟩) 3 cR) qs :: sepA (qs.map HD.asr) :: boxA b1 1 34 (.agg #[.slice (some ⟨gR, 0, none⟩) 3 cR]) :: F) _) := HS
    refine wl_ne ?_
    refine wp_ret ?_
    refine bp_ret1 HF Tryz.results56 (HF.resBox rfl (HS.out.box 5 rfl) (by kernel_rfl)) ?_
    replace HS:=Bx.mk ((HS.out.pick 3 rfl).pick 4 rfl)
    replace HS := Bx.mk (St.swap (HS.out.hold (P := allP (qs)) (fun w f h => hds_allP h)))
    have hfl : fitsL (qs) := niceS.fitsL hni (by omega); have hxl : (qs).length = 3 := hni.len
    try dsimp only [List.eraseIdx] at HS
    replace HS:=Bx.mk (((HS.out.pick 2 rfl).pick 2 rfl).pick 2 rfl)
    have HT := (raid_hold (ps := qs) hxl.symm HS.out).swap.rdLe (B' := B + 2500) (by omega)
    exact ⟨_, _, qs, by rw [hxl], hxl, hfl, (((HT.erase 4).erase 3).erase 2)⟩

theorem drawIntentWrite_any (w0 : World) (ab : Option Addr) (n0 cb : Nat) (bs0 : List UInt8) (hcap : n0 ≤ cb) (hn0 : n0 ≤ 1048576) (hR0 : Rd encB 1 w0 ab n0 bs0) : Calls Tryz.prog 24 #[.slice ab n0 cb] w0 fun e w' => ∃ (ao : Option Addr) (co : Nat) (ps : List HD) (x : IntentD), e = .returned (.tuple #[.agg #[.slice ao ps.length co], .agg #[.int .i64 x.fTxg, .int .i64 x.fSeq, .string x.fHead, .int .i64 x.fOp.fKind, .string x.fOp.fPath, .string x.fOp.fTo, .int .i64 x.fOp.fAt, .string x.fOp.fText]]) ∧ ps.length = 3 ∧ fitsL ps ∧ x.tiny ∧ St w0 [holdsA (rdsP ao ps)] w' := by
 have HS := Bx.mk (St.start w0)
 refine wc_enter Tryz.func24 rfl Tryz.ntmps24 [(0, .slice ab n0 cb)] ⟨rfl, trivial⟩ rfl ?_; intro a HF
 refine wp_sr ?_
 refine wl_alloc rfl HF rfl rfl rfl (Z := [.slice none 0 0]) (by kernel_rfl) rfl HS.out ?_; clear HF HS a; intro a w1 b1 HF HS; replace HS := Bx.mk HS
 refine wl_alloc rfl HF rfl rfl rfl (Z := [.int .i64 0, .int .i64 0, .string ByteArray.empty, .int .i64 0, .string ByteArray.empty, .string ByteArray.empty, .int .i64 0, .string ByteArray.empty]) (by kernel_rfl) rfl HS.out ?_; clear HF HS a; intro a w2 b2 HF HS; replace HS := Bx.mk HS
 refine wl_ne ?_
 refine wp_sr ?_
 refine zm HF ?_;clear HF a;intro a HF
 refine wl_call rfl HF rfl (enter_of Tryz.func48 (by kernel_rfl) rfl) (args := #[.slice ab n0 cb]) rfl (l6Open_any _ ab n0 cb hcap hn0) rfl rfl ?_
 rintro _ w3 ⟨rb, n, rfl, hn, hnn, hs⟩
 obtain ⟨bs, hR⟩ : ∃ bs, Rd encB 1 w0 ab n bs := ⟨_, hR0.take (k := n) (by rw [hR0.len]; exact hnn)⟩
 refine ⟨_, rfl, ?_⟩; replace HS := Bx.mk (HS.out.add hs);clear hs HF a;intro a HF
 try dsimp only [List.eraseIdx] at HS
 refine za HF ?_;clear HF a;intro a HF
 refine wl_ne ?_
 refine wp_sr ?_
 refine zm HF ?_;clear HF a;intro a HF
 replace HS:=Bx.mk (HS.out.pick 0 rfl)
 refine wl_call rfl HF rfl (enter_of Tryz.func56 (by kernel_rfl) rfl) (args := #[.pointer (some ⟨rb, 0, none⟩)]) rfl (l93Logs_any w0 _ rb ab n cb bs hn hR 0 (by omega) _ HS.out) rfl rfl ?_
 rintro _ w4 ⟨ao, co, ps, rfl, hpl, hpf, hs1⟩
 refine ⟨_, rfl, ?_⟩; replace HS := Bx.mk hs1;clear hs1 HF a;intro a HF
 try dsimp only [List.eraseIdx] at HS
 refine zm HF ?_;clear HF a;intro a HF
 replace HS:=Bx.mk (HS.out.pick 0 rfl)
 refine wl_call rfl HF rfl (enter_of Tryz.func57 (by kernel_rfl) rfl) (args := #[.pointer (some ⟨rb, 0, none⟩)]) rfl (l93Intent_any w0 _ rb ab n cb bs hn hR (0 + 2500) (by omega) _ HS.out) rfl rfl ?_
 rintro _ w5 ⟨x, hxt, rfl, hs1⟩
 refine ⟨_, rfl, ?_⟩; replace HS := Bx.mk hs1;clear hs1 HF a;intro a HF
 try dsimp only [List.eraseIdx] at HS
 refine wl_storeBox rfl HF rfl rfl (HF.ev rfl) (HF.ev rfl) HS.out 3 rfl (cells_lit [.slice ao ps.length co] rfl rfl) (by kernel_rfl) ?_; clear HS; intro w6 HS; replace HS := Bx.mk HS
 have HS : Bx (St w0 ([rdA rb ab n cb (0 + 2500 + 140), holdsA (rdsP ao ps), boxA b2 8 55 (.agg #[.int .i64 0, .int .i64 0, .string ByteArray.empty, .int .i64 0, .string ByteArray.empty, .string ByteArray.empty, .int .i64 0, .string ByteArray.empty]), boxA b1 1 34 (.agg #[.slice ao ps.length co])]) _) := HS
 refine wl_storeBox rfl HF rfl rfl (HF.ev rfl) (HF.ev rfl) HS.out 2 rfl (cells_lit [.int .i64 x.fTxg, .int .i64 x.fSeq, .string x.fHead, .int .i64 x.fOp.fKind, .string x.fOp.fPath, .string x.fOp.fTo, .int .i64 x.fOp.fAt, .string x.fOp.fText] rfl rfl) (by kernel_rfl) ?_; clear HS; intro w7 HS; replace HS := Bx.mk HS
 have HS : Bx (St w0 ([rdA rb ab n cb (0 + 2500 + 140), holdsA (rdsP ao ps), boxA b2 8 55 (.agg #[.int .i64 x.fTxg, .int .i64 x.fSeq, .string x.fHead, .int .i64 x.fOp.fKind, .string x.fOp.fPath, .string x.fOp.fTo, .int .i64 x.fOp.fAt, .string x.fOp.fText]), boxA b1 1 34 (.agg #[.slice ao ps.length co])]) _) := HS
 refine wl_ne ?_
 refine wp_ret ?_
 refine bp_ret2 HF Tryz.results24 (HF.resBox rfl (HS.out.box 3 rfl) (by kernel_rfl)) (HF.resBox rfl (HS.out.box 2 rfl) (by kernel_rfl)) ?_
 replace HS:=Bx.mk (HS.out.pick 1 rfl)
 exact ⟨ao, co, ps, x, rfl, hpl, hpf, hxt, (((HS.out.erase 3).erase 2).erase 1)⟩

end Go.Proofs.YtoaopmkbfifhaaaGreatDoor

/- FnIntentWrite: the law, walked. -/
namespace Go.Proofs.YtoaopmkbfifhaaaGreatDoor
set_option linter.unusedVariables false
set_option linter.unusedSimpArgs false
set_option maxHeartbeats 1000000
set_option maxRecDepth 100000
open Go.RowKit

theorem eqOpD (x : OpD) (d : Nat) (w : World) : (Op.equalIn (d + 2) 53 (.agg #[.int .i64 x.fKind, .string x.fPath, .string x.fTo, .int .i64 x.fAt, .string x.fText]) (.agg #[.int .i64 x.fKind, .string x.fPath, .string x.fTo, .int .i64 x.fAt, .string x.fText])).run Tryz.prog w = .ok true w := by
  have hS : Tryz.prog.underlying 53 = some (.struct (Tryz.prog.fieldsOf 53)) := by kernel_rfl
  have hp : Tryz.prog.stoodInHeld 53 = false := by kernel_rfl
  rw [run_equalIn_agg w (d + 1) 53 _ _ hS hp]
  simp only [Program.fieldsOf, Tryz.underlying53]
  go_simp
theorem eqIntentW (x : IntentD) (w : World) : (Op.equalIn 10000 55 (.agg #[.int .i64 x.fTxg, .int .i64 x.fSeq, .string x.fHead, .int .i64 x.fOp.fKind, .string x.fOp.fPath, .string x.fOp.fTo, .int .i64 x.fOp.fAt, .string x.fOp.fText]) (.agg #[.int .i64 x.fTxg, .int .i64 x.fSeq, .string x.fHead, .int .i64 x.fOp.fKind, .string x.fOp.fPath, .string x.fOp.fTo, .int .i64 x.fOp.fAt, .string x.fOp.fText])).run Tryz.prog w = .ok true w := by
  have hS : Tryz.prog.underlying 55 = some (.struct (Tryz.prog.fieldsOf 55)) := by kernel_rfl
  have hp : Tryz.prog.stoodInHeld 55 = false := by kernel_rfl
  have h1 := eqOpD x.fOp 9997 w
  generalize hD : 9997 = D at h1
  rw [show (10000 : Nat) = D + 2 + 1 by omega, run_equalIn_agg w (D + 2) 55 _ _ hS hp]
  simp only [Program.fieldsOf, Tryz.underlying55]
  go_simp
theorem yl_neqX {w : World} {o : Oper} {a : Act} {x y : Operand} {t' : TypeId} (z u : IntentD) (hzu : z = u) (ho : o.op = .binOp .neq 55 x y t') (hx : a.eval x = .agg #[.int .i64 z.fTxg, .int .i64 z.fSeq, .string z.fHead, .int .i64 z.fOp.fKind, .string z.fOp.fPath, .string z.fOp.fTo, .int .i64 z.fOp.fAt, .string z.fOp.fText]) (hy : a.eval y = .agg #[.int .i64 u.fTxg, .int .i64 u.fSeq, .string u.fHead, .int .i64 u.fOp.fKind, .string u.fOp.fPath, .string u.fOp.fTo, .int .i64 u.fOp.fAt, .string u.fOp.fText]) : Yl Tryz.prog w o a (.bool false) := by
  subst hzu
  have he := eqIntentW z w
  unfold Yl execOp
  simp only [ho, hx, hy]
  simp [eqGuard, binOp, go_sem, Op.equal]
  rw [show Op.maxDepth = 10000 from rfl, he]; rfl
theorem yl_eqlX {w : World} {o : Oper} {a : Act} {x y : Operand} {t' : TypeId} (z u : IntentD) (hzu : z = u) (ho : o.op = .binOp .eql 55 x y t') (hx : a.eval x = .agg #[.int .i64 z.fTxg, .int .i64 z.fSeq, .string z.fHead, .int .i64 z.fOp.fKind, .string z.fOp.fPath, .string z.fOp.fTo, .int .i64 z.fOp.fAt, .string z.fOp.fText]) (hy : a.eval y = .agg #[.int .i64 u.fTxg, .int .i64 u.fSeq, .string u.fHead, .int .i64 u.fOp.fKind, .string u.fOp.fPath, .string u.fOp.fTo, .int .i64 u.fOp.fAt, .string u.fOp.fText]) : Yl Tryz.prog w o a (.bool true) := by
  subst hzu
  have he := eqIntentW z w
  unfold Yl execOp
  simp only [ho, hx, hy]
  simp [eqGuard, binOp, go_sem, Op.equal]
  rw [show Op.maxDepth = 10000 from rfl, he]; rfl

theorem pfIntents_yes (a0 a1 : Option Addr) (c0 c1 n : Nat) (xs : List IntentD) (hn : n = xs.length) (w0 : World) (hl : xs.length ≤ 1048576) (hX : Rd IntentD.cells 8 w0 a0 xs.length xs) (hY : Rd IntentD.cells 8 w0 a1 xs.length xs) : Calls Tryz.prog 26 #[.slice a0 xs.length c0, .slice a1 n c1] w0 fun e w' => e = .returned (.bool true) ∧ Below w0.heap.size w0 w' := by
 subst hn
 have HX := Bx.mk hX; have HY := Bx.mk hY; clear hX hY
 have HS := Bx.mk (St.start w0)
 refine wc_enter Tryz.func26 rfl Tryz.ntmps26 [(0, .slice a0 xs.length c0), (1, .slice a1 xs.length c1)] ⟨rfl, rfl, trivial⟩ rfl ?_; intro a HF
 refine wp_sr ?_
 refine za HF ?_;clear HF a;intro a HF
 refine wl_ne ?_
 refine wp_seq ?_
 refine wp_sr ?_
 refine zm HF ?_;clear HF a;intro a HF
 refine zy HF (yl_lenL (e := 55) (size := 8) rfl (HF.ev rfl) (by kernel_rfl)) ?_;clear HF a;intro a HF
 refine zm HF ?_;clear HF a;intro a HF
 refine zy HF (yl_lenL (e := 55) (size := 8) rfl (HF.ev rfl) (by kernel_rfl)) ?_;clear HF a;intro a HF
 refine zy HF (yl_neqI rfl (HF.ev rfl) (HF.ev rfl)) ?_;clear HF a;intro a HF
 refine wl_ne ?_
 refine HF.cases 10 rfl (fun cc1 _ => ?_) fun cc1 _ => ?_
 ·clear HF;rename_i HF
  simp at cc1
 ·clear HF;rename_i HF
  refine wc_false HF rfl ?_
  refine wp_skip ?_
  refine ex_then ?_
  refine wp_seq ?_
  refine wp_sr ?_
  refine za HF ?_;clear HF a;intro a HF
  refine wl_ne ?_
  refine wp_block ?_
  refine wc_loop (ι := Nat) (fun k a w => (k ≤ xs.length) ∧ Fr 26 a [(0, .slice a0 xs.length c0), (1, .slice a1 xs.length c1), (4, .bool false), (5, .int .i64 (k : Int))] ∧ St w0 ([]) w) (fun k => xs.length - k) 0 ⟨(Nat.zero_le _), HF.less _ ⟨rfl, rfl, rfl, rfl, trivial⟩, HS.out⟩ ?_
  clear HF HS; clear a
  rintro k a w1 ⟨hk, HF, HS⟩
  replace HS := Bx.mk HS
  refine wp_seq ?_
  refine wp_sr ?_
  refine zm HF ?_;clear HF a;intro a HF
  refine zm HF ?_;clear HF a;intro a HF
  refine zy HF (yl_lenL (e := 55) (size := 8) rfl (HF.ev rfl) (by kernel_rfl)) ?_;clear HF a;intro a HF
  refine zy HF (yl_lssI rfl (HF.ev rfl) (HF.ev rfl)) ?_;clear HF a;intro a HF
  refine wl_ne ?_
  refine HF.cases 14 rfl (fun cc2 _ => ?_) fun cc2 _ => ?_
  ·clear HF;rename_i HF
   have dcc2 := of_decide_eq_true cc2
   refine wc_true HF rfl ?_
   refine wp_skip ?_
   refine ex_then ?_
   refine wp_seq ?_
   refine wp_block ?_
   refine wp_seq ?_
   obtain ⟨g0, o0, r0⟩ := HX.out.opn; have R0 := Bx.mk r0; clear r0; obtain ⟨g1, o1, r1⟩ := HY.out.opn; have R1 := Bx.mk r1; clear r1
   refine wr_quiet (by kernel_rfl) (by kernel_rfl) HS.out ?_
   refine zq HF (fun _ HS => (yl_move rfl (HF.ev rfl))) ?_;clear HF a;intro a HF
   refine zq HF (fun _ HS => (yl_move rfl (HF.ev rfl))) ?_;clear HF a;intro a HF
   refine zq HF (fun _ HS => (yl_indexAddrR (e := 55) (i := k) (size := 8) rfl (HF.ev rfl) (HF.ev rfl) (by kernel_rfl) rfl (by omega) (R0.out.ao k (by omega)))) ?_;clear HF a;intro a HF
   refine zq HF (fun _ HS => (ylr (cs := [.int .i64 ((xs.getD k default).fTxg), .int .i64 ((xs.getD k default).fSeq), .string ((xs.getD k default).fHead), .int .i64 ((xs.getD k default).fOp.fKind), .string ((xs.getD k default).fOp.fPath), .string ((xs.getD k default).fOp.fTo), .int .i64 ((xs.getD k default).fOp.fAt), .string ((xs.getD k default).fOp.fText)]) rfl (HF.ev rfl) (R0.out.elem HS (get_getD (xs := xs) (j := k) (d := default) (by omega))))) ?_;clear HF a;intro a HF
   refine zq HF (fun _ HS => (yl_move rfl (HF.ev rfl))) ?_;clear HF a;intro a HF
   refine zq HF (fun _ HS => (yl_move rfl (HF.ev rfl))) ?_;clear HF a;intro a HF
   refine zq HF (fun _ HS => (yl_indexAddrR (e := 55) (i := k) (size := 8) rfl (HF.ev rfl) (HF.ev rfl) (by kernel_rfl) rfl (by omega) (R1.out.ao k (by omega)))) ?_;clear HF a;intro a HF
   refine zq HF (fun _ HS => (ylr (cs := [.int .i64 ((xs.getD k default).fTxg), .int .i64 ((xs.getD k default).fSeq), .string ((xs.getD k default).fHead), .int .i64 ((xs.getD k default).fOp.fKind), .string ((xs.getD k default).fOp.fPath), .string ((xs.getD k default).fOp.fTo), .int .i64 ((xs.getD k default).fOp.fAt), .string ((xs.getD k default).fOp.fText)]) rfl (HF.ev rfl) (R1.out.elem HS (get_getD (xs := xs) (j := k) (d := default) (by omega))))) ?_;clear HF a;intro a HF
   refine zq HF (fun _ HS => (yl_neqX (xs.getD k default) (xs.getD k default) rfl rfl (HF.ev rfl) (HF.ev rfl))) ?_;clear HF a;intro a HF
   refine wpQuiet_nil ?_; intro w2 HS; replace HS := Bx.mk HS
   refine ex_then ?_
   refine wc_false HF rfl ?_
   refine wp_skip ?_
   refine ex_block ?_
   refine ex_then ?_
   refine wp_region_lit ?_
   refine zm HF ?_;clear HF a;intro a HF
   refine zy HF (yl_addI rfl (HF.ev rfl) (HF.ev rfl) (i64w (by omega))) ?_;clear HF a;intro a HF
   refine za HF ?_;clear HF a;intro a HF
   refine wl_ne ?_
   exact ⟨k + 1, ⟨(by omega), HF.less _ ⟨rfl, rfl, rfl, rfl, trivial⟩, HS.out⟩, (by omega)⟩
  ·clear HF;rename_i HF
   have dcc2 := of_decide_eq_false cc2
   refine wc_false HF rfl ?_
   refine wp_exit ?_
   refine ex_then_exit ?_
   refine ex_then_exit ?_
   refine ex_block_hit ?_
   refine ex_then ?_
   refine wp_sr ?_
   refine za HF ?_;clear HF a;intro a HF
   refine wl_ne ?_
   refine wp_ret ?_
   refine bp_ret1 HF Tryz.results26 (HF.res rfl) ?_
   exact ⟨rfl, HS.out.bel⟩

theorem pf_take {w : World} {ao : Option Addr} {n : Nat} {xs ys : List IntentD} (h : xs = ys) (hn : xs.length = n) (hr : Rd IntentD.cells 8 w ao n xs) : Rd IntentD.cells 8 w ao ys.length ys := by subst h; subst hn; exact hr
theorem pfIntents_at (a0 a1 : Option Addr) (c0 c1 n : Nat) (xs : List IntentD) (hn : xs.length = n) (w0 : World) (hl : xs.length ≤ 1048576) (hX : Rd IntentD.cells 8 w0 a0 xs.length xs) (hY : Rd IntentD.cells 8 w0 a1 xs.length xs) : Calls Tryz.prog 26 #[.slice a0 n c0, .slice a1 n c1] w0 fun e w' => e = .returned (.bool true) ∧ Below w0.heap.size w0 w' := by
  subst hn
  exact pfIntents_yes a0 a1 c0 c1 _ xs rfl w0 hl hX hY
theorem pfIntents_eq (a0 a1 : Option Addr) (c0 c1 : Nat) (xs : List IntentD) {ys : List IntentD} (hn : ys = xs) (w0 : World) (hl : xs.length ≤ 1048576) (hX : Rd IntentD.cells 8 w0 a0 ys.length ys) (hY : Rd IntentD.cells 8 w0 a1 xs.length xs) : Calls Tryz.prog 26 #[.slice a0 ys.length c0, .slice a1 xs.length c1] w0 fun e w' => e = .returned (.bool true) ∧ Below w0.heap.size w0 w' := by
  subst hn
  exact pfIntents_yes a0 a1 c0 c1 _ ys rfl w0 hl hX hY

theorem fnIntentWrite_walk (w0 : World) (ab : Option Addr) (n0 cb : Nat) (bs : List UInt8) (hT : TabP w0) (hM : MaxP w0) (hE : ErrP w0) (hcap : n0 ≤ cb) (hR : Rd encB 1 w0 ab n0 bs) : Calls Tryz.prog 6 #[.slice ab n0 cb] w0 fun e w' => e = .returned (.bool true) ∧ Below w0.heap.size w0 w' := by
 have HT := Bx.mk hT; have HM := Bx.mk hM; have HE := Bx.mk hE; clear hT hM hE
 have HS := Bx.mk (St.start w0)
 refine wc_enter Tryz.func6 rfl Tryz.ntmps6 [(0, .slice ab n0 cb)] ⟨rfl, trivial⟩ rfl ?_; intro a HF
 refine wp_sr ?_
 refine za HF ?_;clear HF a;intro a HF
 refine wl_ne ?_
 refine wp_seq ?_
 refine wp_sr ?_
 refine zm HF ?_;clear HF a;intro a HF
 refine zy HF (yl_lenL (e := 5) (size := 1) rfl (HF.ev rfl) (by kernel_rfl)) ?_;clear HF a;intro a HF
 refine zy HF (yl_gtrI rfl (HF.ev rfl) (HF.ev rfl)) ?_;clear HF a;intro a HF
 refine wl_ne ?_
 refine HF.cases 14 rfl (fun cc1 _ => ?_) fun cc1 _ => ?_
 ·clear HF;rename_i HF
  have dcc1 := of_decide_eq_true cc1
  refine wc_true HF rfl ?_
  refine wp_sr ?_
  refine za HF ?_;clear HF a;intro a HF
  refine wl_ne ?_
  refine wp_ret ?_
  refine ex_then_ret ?_
  refine bp_ret1 HF Tryz.results6 (HF.res rfl) ?_
  exact ⟨rfl, HS.out.bel⟩
 ·clear HF;rename_i HF
  have dcc1 := of_decide_eq_false cc1
  refine wc_false HF rfl ?_
  refine wp_skip ?_
  refine ex_then ?_
  refine wp_sr ?_
  refine zm HF ?_;clear HF a;intro a HF
  refine wl_call rfl HF rfl (enter_of Tryz.func24 (by kernel_rfl) rfl) (args := #[.slice ab n0 cb]) rfl (drawIntentWrite_any _ ab n0 cb bs hcap (by omega) (hR.below HS.out.bel)) rfl rfl ?_
  rintro _ w1 ⟨ao, co, ps, x, rfl, hpl, hpf, hxt, hs⟩
  refine ⟨_, rfl, ?_⟩; replace HS := Bx.mk (HS.out.add hs);clear hs HF a;intro a HF
  try dsimp only [List.eraseIdx] at HS
  refine zm HF ?_;clear HF a;intro a HF
  refine zy HF (yl_extract rfl (HF.ev rfl) rfl) ?_;clear HF a;intro a HF
  refine zy HF (yl_extract rfl (HF.ev rfl) rfl) ?_;clear HF a;intro a HF
  refine wl_alloc rfl HF rfl rfl rfl (Z := [.slice none 0 0]) (by kernel_rfl) rfl HS.out ?_; clear HF HS a; intro a w2 b2 HF HS; replace HS := Bx.mk HS
  refine wl_alloc rfl HF rfl rfl rfl (Z := [.int .i64 0, .int .i64 0, .string ByteArray.empty, .int .i64 0, .string ByteArray.empty, .string ByteArray.empty, .int .i64 0, .string ByteArray.empty]) (by kernel_rfl) rfl HS.out ?_; clear HF HS a; intro a w3 b3 HF HS; replace HS := Bx.mk HS
  refine wl_storeBox rfl HF rfl rfl (HF.ev rfl) (HF.ev rfl) HS.out 1 rfl (cells_lit [.slice ao ps.length co] rfl rfl) (by kernel_rfl) ?_; clear HS; intro w4 HS; replace HS := Bx.mk HS
  have HS : Bx (St w0 ([boxA b3 8 55 (.agg #[.int .i64 0, .int .i64 0, .string ByteArray.empty, .int .i64 0, .string ByteArray.empty, .string ByteArray.empty, .int .i64 0, .string ByteArray.empty]), boxA b2 1 34 (.agg #[.slice ao ps.length co]), holdsA (rdsP ao ps)]) _) := HS
  refine wl_storeBox rfl HF rfl rfl (HF.ev rfl) (HF.ev rfl) HS.out 0 rfl (cells_lit [.int .i64 x.fTxg, .int .i64 x.fSeq, .string x.fHead, .int .i64 x.fOp.fKind, .string x.fOp.fPath, .string x.fOp.fTo, .int .i64 x.fOp.fAt, .string x.fOp.fText] rfl rfl) (by kernel_rfl) ?_; clear HS; intro w5 HS; replace HS := Bx.mk HS
  have HS : Bx (St w0 ([boxA b3 8 55 (.agg #[.int .i64 x.fTxg, .int .i64 x.fSeq, .string x.fHead, .int .i64 x.fOp.fKind, .string x.fOp.fPath, .string x.fOp.fTo, .int .i64 x.fOp.fAt, .string x.fOp.fText]), boxA b2 1 34 (.agg #[.slice ao ps.length co]), holdsA (rdsP ao ps)]) _) := HS
  refine wl_ne ?_
  refine wp_sr ?_
  refine zy HF (ylr (cs := [.slice ao ps.length co]) rfl (HF.ev rfl) ((HS.out.box 1 rfl).sub 0 1)) ?_;clear HF a;intro a HF
  refine zy HF (ylr (cs := [.int .i64 x.fTxg, .int .i64 x.fSeq, .string x.fHead, .int .i64 x.fOp.fKind, .string x.fOp.fPath, .string x.fOp.fTo, .int .i64 x.fOp.fAt, .string x.fOp.fText]) rfl (HF.ev rfl) ((HS.out.box 0 rfl).sub 0 8)) ?_;clear HF a;intro a HF
  refine wl_call rfl HF rfl (enter_of Tryz.func18 (by kernel_rfl) rfl) (args := #[.agg #[.slice ao ps.length co], .agg #[.int .i64 x.fTxg, .int .i64 x.fSeq, .string x.fHead, .int .i64 x.fOp.fKind, .string x.fOp.fPath, .string x.fOp.fTo, .int .i64 x.fOp.fAt, .string x.fOp.fText]]) rfl (implIntentWrite_any ao co ps _ (by omega) hpf (HS.out.holds 2 rfl) (HT.out.below HS.out.bel) (HM.out.below HS.out.bel) x (IntentD.tiny.fits hxt)) rfl rfl ?_
  rintro _ w6 (⟨hev, rfl, hs⟩ | ⟨ao1, cp1, qs1, hev, rfl, hs⟩)
  ·skip
   refine ⟨_, rfl, ?_⟩; replace HS := Bx.mk (HS.out.add hs);clear hs HF a;intro a HF
   try dsimp only [List.eraseIdx] at HS
   refine zm HF ?_;clear HF a;intro a HF
   refine zy HF (yl_extract rfl (HF.ev rfl) rfl) ?_;clear HF a;intro a HF
   refine zy HF (yl_extract rfl (HF.ev rfl) rfl) ?_;clear HF a;intro a HF
   refine wl_alloc rfl HF rfl rfl rfl (Z := [.slice none 0 0]) (by kernel_rfl) rfl HS.out ?_; clear HF HS a; intro a w7 b5 HF HS; replace HS := Bx.mk HS
   refine wl_storeBox rfl HF rfl rfl (HF.ev rfl) (HF.ev rfl) HS.out 0 rfl (cells_lit [.slice none 0 0] rfl rfl) (by kernel_rfl) ?_; clear HS; intro w8 HS; replace HS := Bx.mk HS
   have HS : Bx (St w0 ([boxA b5 1 34 (.agg #[.slice none 0 0]), boxA b3 8 55 (.agg #[.int .i64 x.fTxg, .int .i64 x.fSeq, .string x.fHead, .int .i64 x.fOp.fKind, .string x.fOp.fPath, .string x.fOp.fTo, .int .i64 x.fOp.fAt, .string x.fOp.fText]), boxA b2 1 34 (.agg #[.slice ao ps.length co]), holdsA (rdsP ao ps)]) _) := HS
   refine za HF ?_;clear HF a;intro a HF
   refine wl_ne ?_
   refine wp_sr ?_
   refine zy HF (ylr (cs := [.slice ao ps.length co]) rfl (HF.ev rfl) ((HS.out.box 2 rfl).sub 0 1)) ?_;clear HF a;intro a HF
   refine zy HF (ylr (cs := [.int .i64 x.fTxg, .int .i64 x.fSeq, .string x.fHead, .int .i64 x.fOp.fKind, .string x.fOp.fPath, .string x.fOp.fTo, .int .i64 x.fOp.fAt, .string x.fOp.fText]) rfl (HF.ev rfl) ((HS.out.box 1 rfl).sub 0 8)) ?_;clear HF a;intro a HF
   refine wl_call rfl HF rfl (enter_of Tryz.func16 (by kernel_rfl) rfl) (args := #[.agg #[.slice ao ps.length co], .agg #[.int .i64 x.fTxg, .int .i64 x.fSeq, .string x.fHead, .int .i64 x.fOp.fKind, .string x.fOp.fPath, .string x.fOp.fTo, .int .i64 x.fOp.fAt, .string x.fOp.fText]]) rfl (specIntentWrite_any ao co ps _ (by omega) hpf (HS.out.holds 3 rfl) x (IntentD.tiny.fits hxt)) rfl rfl ?_
   rintro _ w9 (⟨hev2, rfl, hs⟩ | ⟨ao9, cp9, qs9, hev2, rfl, hs⟩)
   ·skip
    refine ⟨_, rfl, ?_⟩; replace HS := Bx.mk (HS.out.add hs);clear hs HF a;intro a HF
    try dsimp only [List.eraseIdx] at HS
    refine zm HF ?_;clear HF a;intro a HF
    refine zy HF (yl_extract rfl (HF.ev rfl) rfl) ?_;clear HF a;intro a HF
    refine zy HF (yl_extract rfl (HF.ev rfl) rfl) ?_;clear HF a;intro a HF
    refine wl_alloc rfl HF rfl rfl rfl (Z := [.slice none 0 0]) (by kernel_rfl) rfl HS.out ?_; clear HF HS a; intro a w10 b7 HF HS; replace HS := Bx.mk HS
    refine wl_storeBox rfl HF rfl rfl (HF.ev rfl) (HF.ev rfl) HS.out 0 rfl (cells_lit [.slice none 0 0] rfl rfl) (by kernel_rfl) ?_; clear HS; intro w11 HS; replace HS := Bx.mk HS
    have HS : Bx (St w0 ([boxA b7 1 34 (.agg #[.slice none 0 0]), boxA b5 1 34 (.agg #[.slice none 0 0]), boxA b3 8 55 (.agg #[.int .i64 x.fTxg, .int .i64 x.fSeq, .string x.fHead, .int .i64 x.fOp.fKind, .string x.fOp.fPath, .string x.fOp.fTo, .int .i64 x.fOp.fAt, .string x.fOp.fText]), boxA b2 1 34 (.agg #[.slice ao ps.length co]), holdsA (rdsP ao ps)]) _) := HS
    refine za HF ?_;clear HF a;intro a HF
    refine wl_ne ?_
    refine wp_sr ?_
    refine zy HF (ylr (cs := [.slice none 0 0]) rfl (HF.ev rfl) ((HS.out.box 1 rfl).sub 0 1)) ?_;clear HF a;intro a HF
    refine zy HF (ylr (cs := [.slice none 0 0]) rfl (HF.ev rfl) ((HS.out.box 0 rfl).sub 0 1)) ?_;clear HF a;intro a HF
    refine wl_callB rfl HF rfl (enter_of Tryz.func20 (by kernel_rfl) rfl) (args := #[.agg #[.slice none 0 0], .agg #[.slice none 0 0]]) rfl (v := .bool true) ((pfRaid_yes none none 0 0 0 [] [] rfl rfl _ (by decide) fitsL_nil (rds_nil _) (rds_nil _))) rfl rfl HS.out ?_; clear HF HS a; intro w12 a HS HF; replace HS := Bx.mk HS
    refine zm HF ?_;clear HF a;intro a HF
    refine zg HF (yl_move rfl (HF.ev rfl)) ?_;clear HF a;intro a HF
    refine zg HF (yl_move rfl (HF.ev rfl)) ?_;clear HF a;intro a HF
    refine zg HF (yl_eqlBs rfl (HF.ev rfl) (HF.ev rfl) (by kernel_rfl)) ?_;clear HF a;intro a HF
    refine zy HF (yl_pick_t rfl (HF.ev rfl) (HF.ev rfl)) ?_;clear HF a;intro a HF
    refine za HF ?_;clear HF a;intro a HF
    refine wl_ne ?_
    refine wp_seq ?_
    refine wp_sr ?_
    refine zm HF ?_;clear HF a;intro a HF
    refine zy HF (yl_not rfl (HF.ev rfl)) ?_;clear HF a;intro a HF
    refine zm HF ?_;clear HF a;intro a HF
    refine zg HF (yl_move rfl (HF.ev rfl)) ?_;clear HF a;intro a HF
    refine zg HF (yl_move rfl (HF.ev rfl)) ?_;clear HF a;intro a HF
    refine zk HF ?_;clear HF a;intro a HF
    refine zk HF ?_;clear HF a;intro a HF
    refine zk HF ?_;clear HF a;intro a HF
    refine zg HF (yl_pick_f rfl (HF.ev rfl) (HF.ev rfl)) ?_;clear HF a;intro a HF
    refine zg HF (yl_not rfl (HF.ev rfl)) ?_;clear HF a;intro a HF
    refine zy HF (yl_pick_f rfl (HF.ev rfl) (HF.ev rfl)) ?_;clear HF a;intro a HF
    refine wl_ne ?_
    refine wc_true HF rfl ?_
    refine wp_sr ?_
    refine zm HF ?_;clear HF a;intro a HF
    refine za HF ?_;clear HF a;intro a HF
    refine wl_ne ?_
    refine wp_ret ?_
    refine ex_then_ret ?_
    refine bp_ret1 HF Tryz.results6 (HF.res rfl) ?_
    exact ⟨rfl, HS.out.bel⟩
   ·skip
    exact absurd (hev2.symm.trans hev) (by simp)
  ·skip
   have hok1 := intF_ok hev; have hl1 : qs1.length = 3 := by rw [← dsOf_len]; exact (okR_at hok1).1
   have hf1 : fitsL qs1 := okR_fits hok1
   refine ⟨_, rfl, ?_⟩; replace HS := Bx.mk (HS.out.add (raid_holdG rfl hs));clear hs HF a;intro a HF
   try dsimp only [List.eraseIdx] at HS
   refine zm HF ?_;clear HF a;intro a HF
   refine zy HF (yl_extract rfl (HF.ev rfl) rfl) ?_;clear HF a;intro a HF
   refine zy HF (yl_extract rfl (HF.ev rfl) rfl) ?_;clear HF a;intro a HF
   refine wl_alloc rfl HF rfl rfl rfl (Z := [.slice none 0 0]) (by kernel_rfl) rfl HS.out ?_; clear HF HS a; intro a w13 b8 HF HS; replace HS := Bx.mk HS
   refine wl_storeBox rfl HF rfl rfl (HF.ev rfl) (HF.ev rfl) HS.out 0 rfl (cells_lit [.slice ao1 qs1.length cp1] rfl rfl) (by kernel_rfl) ?_; clear HS; intro w14 HS; replace HS := Bx.mk HS
   have HS : Bx (St w0 ([boxA b8 1 34 (.agg #[.slice ao1 qs1.length cp1]), holdsA (rdsP ao1 qs1), boxA b3 8 55 (.agg #[.int .i64 x.fTxg, .int .i64 x.fSeq, .string x.fHead, .int .i64 x.fOp.fKind, .string x.fOp.fPath, .string x.fOp.fTo, .int .i64 x.fOp.fAt, .string x.fOp.fText]), boxA b2 1 34 (.agg #[.slice ao ps.length co]), holdsA (rdsP ao ps)]) _) := HS
   refine za HF ?_;clear HF a;intro a HF
   refine wl_ne ?_
   refine wp_sr ?_
   refine zy HF (ylr (cs := [.slice ao ps.length co]) rfl (HF.ev rfl) ((HS.out.box 3 rfl).sub 0 1)) ?_;clear HF a;intro a HF
   refine zy HF (ylr (cs := [.int .i64 x.fTxg, .int .i64 x.fSeq, .string x.fHead, .int .i64 x.fOp.fKind, .string x.fOp.fPath, .string x.fOp.fTo, .int .i64 x.fOp.fAt, .string x.fOp.fText]) rfl (HF.ev rfl) ((HS.out.box 2 rfl).sub 0 8)) ?_;clear HF a;intro a HF
   refine wl_call rfl HF rfl (enter_of Tryz.func16 (by kernel_rfl) rfl) (args := #[.agg #[.slice ao ps.length co], .agg #[.int .i64 x.fTxg, .int .i64 x.fSeq, .string x.fHead, .int .i64 x.fOp.fKind, .string x.fOp.fPath, .string x.fOp.fTo, .int .i64 x.fOp.fAt, .string x.fOp.fText]]) rfl (specIntentWrite_any ao co ps _ (by omega) hpf (HS.out.holds 4 rfl) x (IntentD.tiny.fits hxt)) rfl rfl ?_
   rintro _ w15 (⟨hev2, rfl, hs⟩ | ⟨ao9, cp9, qs9, hev2, rfl, hs⟩)
   ·skip
    exact absurd (hev2.symm.trans hev) (by simp)
   ·skip
    have hq9 : dsOf qs9 = dsOf qs1 := Option.some.inj (hev2.symm.trans hev)
    refine ⟨_, rfl, ?_⟩; replace HS := Bx.mk (HS.out.add (raid_holdG rfl hs));clear hs HF a;intro a HF
    try dsimp only [List.eraseIdx] at HS
    refine zm HF ?_;clear HF a;intro a HF
    refine zy HF (yl_extract rfl (HF.ev rfl) rfl) ?_;clear HF a;intro a HF
    refine zy HF (yl_extract rfl (HF.ev rfl) rfl) ?_;clear HF a;intro a HF
    refine wl_alloc rfl HF rfl rfl rfl (Z := [.slice none 0 0]) (by kernel_rfl) rfl HS.out ?_; clear HF HS a; intro a w16 b10 HF HS; replace HS := Bx.mk HS
    refine wl_storeBox rfl HF rfl rfl (HF.ev rfl) (HF.ev rfl) HS.out 0 rfl (cells_lit [.slice ao9 qs9.length cp9] rfl rfl) (by kernel_rfl) ?_; clear HS; intro w17 HS; replace HS := Bx.mk HS
    have HS : Bx (St w0 ([boxA b10 1 34 (.agg #[.slice ao9 qs9.length cp9]), holdsA (rdsP ao9 qs9), boxA b8 1 34 (.agg #[.slice ao1 qs1.length cp1]), holdsA (rdsP ao1 qs1), boxA b3 8 55 (.agg #[.int .i64 x.fTxg, .int .i64 x.fSeq, .string x.fHead, .int .i64 x.fOp.fKind, .string x.fOp.fPath, .string x.fOp.fTo, .int .i64 x.fOp.fAt, .string x.fOp.fText]), boxA b2 1 34 (.agg #[.slice ao ps.length co]), holdsA (rdsP ao ps)]) _) := HS
    refine za HF ?_;clear HF a;intro a HF
    refine wl_ne ?_
    refine wp_sr ?_
    refine zy HF (ylr (cs := [.slice ao1 qs1.length cp1]) rfl (HF.ev rfl) ((HS.out.box 2 rfl).sub 0 1)) ?_;clear HF a;intro a HF
    refine zy HF (ylr (cs := [.slice ao9 qs9.length cp9]) rfl (HF.ev rfl) ((HS.out.box 0 rfl).sub 0 1)) ?_;clear HF a;intro a HF
    refine wl_callB rfl HF rfl (enter_of Tryz.func20 (by kernel_rfl) rfl) (args := #[.agg #[.slice ao1 qs1.length cp1], .agg #[.slice ao9 qs9.length cp9]]) rfl (v := .bool true) ((pfRaid_yes ao1 ao9 cp1 cp9 _ qs1 qs9 rfl hq9 _ (by omega) hf1 (HS.out.holds 3 rfl) (HS.out.holds 1 rfl))) rfl rfl HS.out ?_; clear HF HS a; intro w18 a HS HF; replace HS := Bx.mk HS
    refine zm HF ?_;clear HF a;intro a HF
    refine zg HF (yl_move rfl (HF.ev rfl)) ?_;clear HF a;intro a HF
    refine zg HF (yl_move rfl (HF.ev rfl)) ?_;clear HF a;intro a HF
    refine zg HF (yl_eqlBs rfl (HF.ev rfl) (HF.ev rfl) (by kernel_rfl)) ?_;clear HF a;intro a HF
    refine zy HF (yl_pick_t rfl (HF.ev rfl) (HF.ev rfl)) ?_;clear HF a;intro a HF
    refine za HF ?_;clear HF a;intro a HF
    refine wl_ne ?_
    refine wp_seq ?_
    refine wp_sr ?_
    refine zm HF ?_;clear HF a;intro a HF
    refine zy HF (yl_not rfl (HF.ev rfl)) ?_;clear HF a;intro a HF
    refine zm HF ?_;clear HF a;intro a HF
    refine zg HF (yl_move rfl (HF.ev rfl)) ?_;clear HF a;intro a HF
    refine zg HF (yl_move rfl (HF.ev rfl)) ?_;clear HF a;intro a HF
    refine zg HF (ylr (cs := [.slice ao ps.length co]) rfl (HF.ev rfl) ((HS.out.box 5 rfl).sub 0 1)) ?_;clear HF a;intro a HF
    refine wl_callBg HF rfl rfl rfl rfl (enter_of Tryz.func21 (by kernel_rfl) rfl) (args := #[.agg #[.slice ao ps.length co]]) rfl (v := .int .i64 (lostN (dsOf ps) 3 : Int)) ((pfLost_three ao co ps _ hpl (HS.out.holds 6 rfl))) rfl rfl HS.out ?_; clear HF HS a; intro w19 a HS HF; replace HS := Bx.mk HS
    refine zg HF (yl_eqlI rfl (HF.ev rfl) (HF.ev rfl)) ?_;clear HF a;intro a HF
    refine zg HF (yl_pick_t rfl (HF.ev rfl) (HF.ev rfl)) ?_;clear HF a;intro a HF
    refine zg HF (yl_not rfl (HF.ev rfl)) ?_;clear HF a;intro a HF
    refine zy HF (yl_pick_f rfl (HF.ev rfl) (HF.ev rfl)) ?_;clear HF a;intro a HF
    refine wl_ne ?_
    refine HF.cases 50 rfl (fun cc2 _ => ?_) fun cc2 _ => ?_
    ·clear HF;rename_i HF
     refine wc_true HF rfl ?_
     refine wp_sr ?_
     refine zm HF ?_;clear HF a;intro a HF
     refine za HF ?_;clear HF a;intro a HF
     refine wl_ne ?_
     refine wp_ret ?_
     refine ex_then_ret ?_
     refine bp_ret1 HF Tryz.results6 (HF.res rfl) ?_
     exact ⟨rfl, HS.out.bel⟩
    ·clear HF;rename_i HF
     have hlost : lostN (dsOf ps) 3 = 0 := by have : (lostN (dsOf ps) 3 : Int) = 0 := (by simpa using cc2); omega
     refine wc_false HF rfl ?_
     refine wp_skip ?_
     refine ex_then ?_
     refine wp_sr ?_
     refine zy HF (ylr (cs := [.slice ao ps.length co]) rfl (HF.ev rfl) ((HS.out.box 5 rfl).sub 0 1)) ?_;clear HF a;intro a HF
     refine zy HF (yfa 0 rfl (HF.ev rfl)) ?_;clear HF a;intro a HF
     refine zy HF (ylo (v := .int .i64 x.fTxg) rfl (HF.ev rfl) (((HS.out.box 4 rfl).cell 0).trans rfl)) ?_;clear HF a;intro a HF
     obtain ⟨s, hlaw⟩ := int_law hev hlost; have hs1 := hlaw.s1; have hs4 := hlaw.s4; have hrow := hlaw.row
     refine wl_call rfl HF rfl (enter_of Tryz.func25 (by kernel_rfl) rfl) (args := #[.agg #[.slice ao ps.length co], .int .i64 x.fTxg]) rfl (intentList_any ao co ps _ (HT.out.below HS.out.bel) (HM.out.below HS.out.bel) (HE.out.below HS.out.bel) (by omega) hpf.at (HS.out.holds 6 rfl).1 (HS.out.holds 6 rfl).at hlaw.od x.fTxg) rfl rfl ?_
     rintro _ w20 ⟨aold, cold, old, hold, rfl, hqold⟩
     refine ⟨_, rfl, ?_⟩; replace HS := Bx.mk (HS.out.add hqold); clear hqold HF; clear a; intro a HF
     try dsimp only [List.eraseIdx] at HS
     have hlold := hold.len
     refine za HF ?_;clear HF a;intro a HF
     refine wl_ne ?_
     refine wp_sr ?_
     refine zy HF (ylr (cs := [.slice ao1 qs1.length cp1]) rfl (HF.ev rfl) ((HS.out.box 3 rfl).sub 0 1)) ?_;clear HF a;intro a HF
     refine zy HF (yfa 0 rfl (HF.ev rfl)) ?_;clear HF a;intro a HF
     refine zy HF (ylo (v := .int .i64 x.fTxg) rfl (HF.ev rfl) (((HS.out.box 5 rfl).cell 0).trans rfl)) ?_;clear HF a;intro a HF
     refine wl_call rfl HF rfl (enter_of Tryz.func25 (by kernel_rfl) rfl) (args := #[.agg #[.slice ao1 qs1.length cp1], .int .i64 x.fTxg]) rfl (intentList_any ao1 cp1 qs1 _ (HT.out.below HS.out.bel) (HM.out.below HS.out.bel) (HE.out.below HS.out.bel) (by omega) hf1.at (HS.out.holds 4 rfl).1 (HS.out.holds 4 rfl).at hlaw.ox x.fTxg) rfl rfl ?_
     rintro _ w21 ⟨alst, clst, lst, hlst, rfl, hqlst⟩
     refine ⟨_, rfl, ?_⟩; replace HS := Bx.mk (HS.out.add hqlst); clear hqlst HF; clear a; intro a HF
     try dsimp only [List.eraseIdx] at HS
     have hllst := hlst.len
     refine za HF ?_;clear HF a;intro a HF
     refine wl_ne ?_
     refine wp_seq ?_
     refine wr_quiet (by kernel_rfl) (by kernel_rfl) HS.out ?_
     refine zq HF (fun _ HS => (yl_move rfl (HF.ev rfl))) ?_;clear HF a;intro a HF
     refine zq HF (fun _ HS => (yl_lenL (e := 55) (size := 8) rfl (HF.ev rfl) (by kernel_rfl))) ?_;clear HF a;intro a HF
     refine zq HF (fun _ HS => (yfa 1 rfl (HF.ev rfl))) ?_;clear HF a;intro a HF
     refine zq HF (fun _ HS => (ylo (v := .int .i64 x.fSeq) rfl (HF.ev rfl) (((HS.box 6 rfl).cell 1).trans rfl))) ?_;clear HF a;intro a HF
     refine zq HF (fun _ HS => (yl_subI (r := ((s - 1 : Nat) : Int)) rfl (HF.ev rfl) (HF.ev rfl) ((i64w (by omega)).trans (by omega)))) ?_;clear HF a;intro a HF
     refine zq HF (fun _ HS => (yl_lssI rfl (HF.ev rfl) (HF.ev rfl))) ?_;clear HF a;intro a HF
     refine zq HF (fun _ HS => (yl_move rfl (HF.ev rfl))) ?_;clear HF a;intro a HF
     refine HF.cases 66 rfl (fun cc3 _ => ?_) fun cc3 _ => ?_
     ·clear HF;rename_i HF
      have dcc3 := of_decide_eq_true cc3
      have hsh : lst = old := hlaw.short hold hlst (by omega)
      refine zqg HF (fun _ HS => (yl_move rfl (HF.ev rfl))) ?_;clear HF a;intro a HF
      refine zqg HF (fun _ HS => (yl_move rfl (HF.ev rfl))) ?_;clear HF a;intro a HF
      refine wq_callg HF rfl rfl rfl rfl (enter_of Tryz.func26 (by kernel_rfl) rfl) (args := #[.slice alst lst.length clst, .slice aold old.length cold]) rfl (v := .bool true) (fun _ HS => (pfIntents_eq alst aold _ _ old hsh _ (by omega) (St.rdOf HS IntentD.cells_len 0 rfl) (St.rdOf HS IntentD.cells_len 1 rfl))) rfl rfl ?_;clear HF a;intro a HF
      refine zq HF (fun _ HS => (yl_pick_t rfl (HF.ev rfl) (HF.ev rfl))) ?_;clear HF a;intro a HF
      refine zq HF (fun _ HS => (yl_move rfl (HF.ev rfl))) ?_;clear HF a;intro a HF
      refine wq_skip HF rfl rfl rfl rfl rfl rfl ?_;clear HF a;intro a HF
      refine wq_skip HF rfl rfl rfl rfl rfl rfl ?_;clear HF a;intro a HF
      refine wq_skip HF rfl rfl rfl rfl rfl rfl ?_;clear HF a;intro a HF
      refine wq_skip HF rfl rfl rfl rfl rfl rfl ?_;clear HF a;intro a HF
      refine wq_skip HF rfl rfl rfl rfl rfl rfl ?_;clear HF a;intro a HF
      refine wq_skip HF rfl rfl rfl rfl rfl rfl ?_;clear HF a;intro a HF
      refine wq_skip HF rfl rfl rfl rfl rfl rfl ?_;clear HF a;intro a HF
      refine wq_skipU HF rfl rfl rfl rfl rfl ?_;clear HF a;intro a HF
      refine wq_skipU HF rfl rfl rfl rfl rfl ?_;clear HF a;intro a HF
      refine wq_skipU HF rfl rfl rfl rfl rfl ?_;clear HF a;intro a HF
      refine wq_skipU HF rfl rfl rfl rfl rfl ?_;clear HF a;intro a HF
      refine wq_skipU HF rfl rfl rfl rfl rfl ?_;clear HF a;intro a HF
      refine wq_skip HF rfl rfl rfl rfl rfl rfl ?_;clear HF a;intro a HF
      refine wq_skip HF rfl rfl rfl rfl rfl rfl ?_;clear HF a;intro a HF
      refine wq_skipU HF rfl rfl rfl rfl rfl ?_;clear HF a;intro a HF
      refine wq_skipU HF rfl rfl rfl rfl rfl ?_;clear HF a;intro a HF
      refine wq_skipU HF rfl rfl rfl rfl rfl ?_;clear HF a;intro a HF
      refine wq_skipU HF rfl rfl rfl rfl rfl ?_;clear HF a;intro a HF
      refine wq_skipU HF rfl rfl rfl rfl rfl ?_;clear HF a;intro a HF
      refine wq_skipU HF rfl rfl rfl rfl rfl ?_;clear HF a;intro a HF
      refine wq_skipU HF rfl rfl rfl rfl rfl ?_;clear HF a;intro a HF
      refine wq_skipU HF rfl rfl rfl rfl rfl ?_;clear HF a;intro a HF
      refine wq_skip HF rfl rfl rfl rfl rfl rfl ?_;clear HF a;intro a HF
      refine wq_skip HF rfl rfl rfl rfl rfl rfl ?_;clear HF a;intro a HF
      refine wq_skipU HF rfl rfl rfl rfl rfl ?_;clear HF a;intro a HF
      refine wq_skipU HF rfl rfl rfl rfl rfl ?_;clear HF a;intro a HF
      refine wq_skipU HF rfl rfl rfl rfl rfl ?_;clear HF a;intro a HF
      refine wq_skipU HF rfl rfl rfl rfl rfl ?_;clear HF a;intro a HF
      refine wq_skipU HF rfl rfl rfl rfl rfl ?_;clear HF a;intro a HF
      refine wq_skipU HF rfl rfl rfl rfl rfl ?_;clear HF a;intro a HF
      refine wq_skipU HF rfl rfl rfl rfl rfl ?_;clear HF a;intro a HF
      refine wq_skipU HF rfl rfl rfl rfl rfl ?_;clear HF a;intro a HF
      refine wq_skipU HF rfl rfl rfl rfl rfl ?_;clear HF a;intro a HF
      refine wq_skipU HF rfl rfl rfl rfl rfl ?_;clear HF a;intro a HF
      refine wq_skipU HF rfl rfl rfl rfl rfl ?_;clear HF a;intro a HF
      refine wq_skip HF rfl rfl rfl rfl rfl rfl ?_;clear HF a;intro a HF
      refine zq HF (fun _ HS => (yl_pick_t rfl (HF.ev rfl) (HF.ev rfl))) ?_;clear HF a;intro a HF
      refine zq HF (fun _ HS => (yl_assign rfl (HF.ev rfl))) ?_;clear HF a;intro a HF
      refine wpQuiet_nil ?_; intro w22 HS; replace HS := Bx.mk HS
      refine ex_then ?_
      refine wp_ret ?_
      refine bp_ret1 HF Tryz.results6 (HF.res rfl) ?_
      exact ⟨rfl, HS.out.bel⟩
     ·clear HF;rename_i HF
      have dcc3 := of_decide_eq_false cc3
      have hlg := hlaw.long hold hlst (by omega); have hlg1 := hlg.1; have hlg2 := hlg.2.1
      refine wq_skip HF rfl rfl rfl rfl rfl rfl ?_;clear HF a;intro a HF
      refine wq_skip HF rfl rfl rfl rfl rfl rfl ?_;clear HF a;intro a HF
      refine wq_skip HF rfl rfl rfl rfl rfl rfl ?_;clear HF a;intro a HF
      refine zq HF (fun _ HS => (yl_pick_f rfl (HF.ev rfl) (HF.ev rfl))) ?_;clear HF a;intro a HF
      refine zq HF (fun _ HS => (yl_move rfl (HF.ev rfl))) ?_;clear HF a;intro a HF
      refine zqg HF (fun _ HS => (yl_move rfl (HF.ev rfl))) ?_;clear HF a;intro a HF
      refine zqg HF (fun _ HS => (yl_lenL (e := 55) (size := 8) rfl (HF.ev rfl) (by kernel_rfl))) ?_;clear HF a;intro a HF
      refine zqg HF (fun _ HS => (yfa 1 rfl (HF.ev rfl))) ?_;clear HF a;intro a HF
      refine zqg HF (fun _ HS => (ylo (v := .int .i64 x.fSeq) rfl (HF.ev rfl) (((HS.box 6 rfl).cell 1).trans rfl))) ?_;clear HF a;intro a HF
      refine zqg HF (fun _ HS => (yl_subI (r := ((s - 1 : Nat) : Int)) rfl (HF.ev rfl) (HF.ev rfl) ((i64w (by omega)).trans (by omega)))) ?_;clear HF a;intro a HF
      refine zqg HF (fun _ HS => (yl_geqI rfl (HF.ev rfl) (HF.ev rfl))) ?_;clear HF a;intro a HF
      refine zqg HF (fun _ HS => (yl_move rfl (HF.ev rfl))) ?_;clear HF a;intro a HF
      refine HF.cases 78 rfl (fun cc4 _ => ?_) fun cc4 _ => ?_
      ·clear HF;rename_i HF
       have dcc4 := of_decide_eq_true cc4
       refine zqg HF (fun _ HS => (yl_move rfl (HF.ev rfl))) ?_;clear HF a;intro a HF
       refine zqg HF (fun _ HS => (yl_lenL (e := 55) (size := 8) rfl (HF.ev rfl) (by kernel_rfl))) ?_;clear HF a;intro a HF
       refine zqg HF (fun _ HS => (yfa 1 rfl (HF.ev rfl))) ?_;clear HF a;intro a HF
       refine zqg HF (fun _ HS => (ylo (v := .int .i64 x.fSeq) rfl (HF.ev rfl) (((HS.box 6 rfl).cell 1).trans rfl))) ?_;clear HF a;intro a HF
       refine zqg HF (fun _ HS => (yl_geqI rfl (HF.ev rfl) (HF.ev rfl))) ?_;clear HF a;intro a HF
       refine zqg HF (fun _ HS => (yl_pick_t rfl (HF.ev rfl) (HF.ev rfl))) ?_;clear HF a;intro a HF
       refine zqg HF (fun _ HS => (yl_move rfl (HF.ev rfl))) ?_;clear HF a;intro a HF
       refine HF.cases 85 rfl (fun cc5 _ => ?_) fun cc5 _ => ?_
       ·clear HF;rename_i HF
        have dcc5 := of_decide_eq_true cc5
        obtain ⟨g11, rfl, _, _, _, _⟩ := HS.out.rowOpen 0 rfl (by omega)
        refine zqg HF (fun _ HS => (yl_move rfl (HF.ev rfl))) ?_;clear HF a;intro a HF
        refine zqg HF (fun _ HS => (yfa 1 rfl (HF.ev rfl))) ?_;clear HF a;intro a HF
        refine zqg HF (fun _ HS => (ylo (v := .int .i64 x.fSeq) rfl (HF.ev rfl) (((HS.box 6 rfl).cell 1).trans rfl))) ?_;clear HF a;intro a HF
        refine zqg HF (fun _ HS => (yl_subI (r := ((s - 1 : Nat) : Int)) rfl (HF.ev rfl) (HF.ev rfl) ((i64w (by omega)).trans (by omega)))) ?_;clear HF a;intro a HF
        refine zqg HF (fun _ HS => (yl_indexAddr (e := 55) (i := s - 1) (size := 8) rfl (HF.ev rfl) (HF.ev rfl) (by kernel_rfl) rfl (by omega))) ?_;clear HF a;intro a HF
        refine zqg HF (fun _ HS => (ylr (cs := [.int .i64 ((lst.getD (s - 1) default).fTxg), .int .i64 ((lst.getD (s - 1) default).fSeq), .string ((lst.getD (s - 1) default).fHead), .int .i64 ((lst.getD (s - 1) default).fOp.fKind), .string ((lst.getD (s - 1) default).fOp.fPath), .string ((lst.getD (s - 1) default).fOp.fTo), .int .i64 ((lst.getD (s - 1) default).fOp.fAt), .string ((lst.getD (s - 1) default).fOp.fText)]) rfl (HF.ev rfl) (HS.elem IntentD.cells_len 0 rfl (get_getD (xs := lst) (j := s - 1) (d := default) (by omega))))) ?_;clear HF a;intro a HF
        refine zqg HF (fun _ HS => (ylr (cs := [.int .i64 x.fTxg, .int .i64 x.fSeq, .string x.fHead, .int .i64 x.fOp.fKind, .string x.fOp.fPath, .string x.fOp.fTo, .int .i64 x.fOp.fAt, .string x.fOp.fText]) rfl (HF.ev rfl) ((HS.box 6 rfl).sub 0 8))) ?_;clear HF a;intro a HF
        refine zqg HF (fun _ HS => (yl_eqlX (lst.getD (s - 1) default) x hlg2 rfl (HF.ev rfl) (HF.ev rfl))) ?_;clear HF a;intro a HF
        refine zqg HF (fun _ HS => (yl_pick_t rfl (HF.ev rfl) (HF.ev rfl))) ?_;clear HF a;intro a HF
        refine zqg HF (fun _ HS => (yl_move rfl (HF.ev rfl))) ?_;clear HF a;intro a HF
        refine zqg HF (fun _ HS => (yl_move rfl (HF.ev rfl))) ?_;clear HF a;intro a HF
        refine zqg HF (fun _ HS => (yfa 1 rfl (HF.ev rfl))) ?_;clear HF a;intro a HF
        refine zqg HF (fun _ HS => (ylo (v := .int .i64 x.fSeq) rfl (HF.ev rfl) (((HS.box 6 rfl).cell 1).trans rfl))) ?_;clear HF a;intro a HF
        refine zqg HF (fun _ HS => (yl_subI (r := ((s - 1 : Nat) : Int)) rfl (HF.ev rfl) (HF.ev rfl) ((i64w (by omega)).trans (by omega)))) ?_;clear HF a;intro a HF
        refine zqg HF (fun _ HS => (yl_sliceHi (e := 55) (size := 8) (k := s - 1) rfl (HF.ev rfl) (HF.ev rfl) (by kernel_rfl) (by omega) (Nat.le_trans (by omega) (St.capLe HS 0 rfl)))) ?_;clear HF a;intro a HF
        refine zqg HF (fun _ HS => (yl_move rfl (HF.ev rfl))) ?_;clear HF a;intro a HF
        refine zqg HF (fun _ HS => (yfa 1 rfl (HF.ev rfl))) ?_;clear HF a;intro a HF
        refine zqg HF (fun _ HS => (ylo (v := .int .i64 x.fSeq) rfl (HF.ev rfl) (((HS.box 6 rfl).cell 1).trans rfl))) ?_;clear HF a;intro a HF
        refine zqg HF (fun _ HS => (yl_subI (r := ((s - 1 : Nat) : Int)) rfl (HF.ev rfl) (HF.ev rfl) ((i64w (by omega)).trans (by omega)))) ?_;clear HF a;intro a HF
        refine zqg HF (fun _ HS => (yl_sliceHi (e := 55) (size := 8) (k := s - 1) rfl (HF.ev rfl) (HF.ev rfl) (by kernel_rfl) (by omega) (Nat.le_trans (by omega) (St.capLe HS 1 rfl)))) ?_;clear HF a;intro a HF
        refine wq_callg HF rfl rfl rfl rfl (enter_of Tryz.func26 (by kernel_rfl) rfl) (args := #[.slice (some ⟨g11, 0, none⟩) (s - 1) clst, .slice aold (s - 1) cold]) rfl (v := .bool true) (fun _ HS => (pfIntents_at (some ⟨g11, 0, none⟩) aold _ _ (s - 1) (old.take (s - 1)) (by rw [List.length_take]; omega) _ (by rw [List.length_take]; omega) (pf_take hlg.2.2 (by rw [List.length_take]; omega) ((St.rdOf HS IntentD.cells_len 0 rfl).take (k := s - 1) (by omega))) (pf_take rfl (by rw [List.length_take]; omega) ((St.rdOf HS IntentD.cells_len 1 rfl).take (k := s - 1) (by omega))))) rfl rfl ?_;clear HF a;intro a HF
        refine zqg HF (fun _ HS => (yl_pick_t rfl (HF.ev rfl) (HF.ev rfl))) ?_;clear HF a;intro a HF
        refine zq HF (fun _ HS => (yl_pick_f rfl (HF.ev rfl) (HF.ev rfl))) ?_;clear HF a;intro a HF
        refine zq HF (fun _ HS => (yl_assign rfl (HF.ev rfl))) ?_;clear HF a;intro a HF
        refine wpQuiet_nil ?_; intro w23 HS; replace HS := Bx.mk HS
        refine ex_then ?_
        refine wp_ret ?_
        refine bp_ret1 HF Tryz.results6 (HF.res rfl) ?_
        exact ⟨rfl, HS.out.bel⟩
       ·clear HF;rename_i HF
        have dcc5 := of_decide_eq_false cc5
        exact absurd dcc5 (by omega)
      ·clear HF;rename_i HF
       have dcc4 := of_decide_eq_false cc4
       exact absurd dcc4 (by omega)

end Go.Proofs.YtoaopmkbfifhaaaGreatDoor
