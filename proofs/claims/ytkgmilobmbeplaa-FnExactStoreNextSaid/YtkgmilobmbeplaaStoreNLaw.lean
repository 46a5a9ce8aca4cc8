/- FnExactStoreNext: the law's walk. -/
import Derived.Test.YtkgmilobmbeplaaStoreNI
import Derived.Test.YtkgmilobmbeplaaStoreNS
import Derived.Test.YtkgmilobmbeplaaStoreM
import Derived.Deep.RegionWith
namespace Go.Proofs.Ytkgmilobmbeplaa
open Go.RowKit

theorem stepped_fit {st : StoreD} (hf : st.Fit) : st.stepped.Fit := by
  unfold StoreD.stepped
  split
  · obtain ⟨l0, l1, l2⟩ := dropsRS_len (st.fRows, st.fSpace) st.fGone
    exact ⟨by show (dropsRS (st.fRows, st.fSpace) st.fGone).1.length ≤ _; rw [l0]; exact hf.f0, by show (dropsRS (st.fRows, st.fSpace) st.fGone).2.fRefs.length ≤ _; rw [l1]; exact hf.f1, by show (dropsRS (st.fRows, st.fSpace) st.fGone).2.fLast.length ≤ _; rw [l2]; exact hf.f2, Nat.zero_le _, hf.f6⟩
  · exact ⟨Nat.zero_le _, Nat.zero_le _, Nat.zero_le _, Nat.zero_le _, Nat.zero_le _⟩

set_option maxHeartbeats 4000000 in
set_option maxRecDepth 100000 in
theorem lawStoreNext_any (va : Value) (st : StoreD) (w : World) (hr : StoreD.Reads w va st) (hs : st.Small) (hi : -9223372036854775808 ≤ st.fTxg) :
    Calls Try.prog 7 #[va] w fun e w' => e = .returned (.bool true) ∧ Below w.heap.size w w' := by
  have HRd := Bx.mk hr
  obtain ⟨a0, c0, a1, c1, a2, c2, a4, c4, a6, c6, rfl, _⟩ := hr
  have HA := Bx.mk (Box.new w [.slice a0 st.fRows.length c0, .slice a1 st.fSpace.fRefs.length c1, .slice a2 st.fSpace.fLast.length c2, .int .i64 st.fTxg, .slice a4 st.fGone.length c4, .int .i64 st.fKeep, .slice a6 st.fDead.length c6, .bool st.fSame] 63 rfl rfl)
  have HB : Bx (Below w.heap.size w (w.alloc (.cells #[.slice a0 st.fRows.length c0, .slice a1 st.fSpace.fRefs.length c1, .slice a2 st.fSpace.fLast.length c2, .int .i64 st.fTxg, .slice a4 st.fGone.length c4, .int .i64 st.fKeep, .slice a6 st.fDead.length c6, .bool st.fSame] 63))) := ⟨(Below.refl _ _).alloc (Nat.le_refl _) _⟩
  have HSZ := szStore_any _ st 1048576 _ (by omega) (by omega) (HRd.out.below HB.out) hs
  by_cases h : (1048576 : Int) < (st.bulk : Nat)
  · rw [leftOf_no h] at HSZ
    have HC := Bx.mk HSZ
    clear HSZ
    go_enter Try.func7, Try.ntmps7
    go_wp2_with fail
    refine HC.out.mono ?_
    rintro e w1 ⟨rfl, b1⟩
    go_wp2
    go_ret
    exact ⟨rfl, HB.out.trans (b1.mono HB.out.size)⟩
  · rw [leftOf_yes (by omega)] at HSZ
    have HC := Bx.mk HSZ
    clear HSZ
    have hbk : (st.bulk : Int) ≤ 1048576 := by omega
    have hf : st.Fit := StoreD.fit (by omega)
    have hfs : st.stepped.Fit := stepped_fit hf
    have hpk := past_pos st
    have hpg := past_pos st.stepped
    go_enter Try.func7, Try.ntmps7
    go_wp2_with fail
    refine HC.out.mono ?_
    rintro e w1 ⟨rfl, b⟩
    have hsz_w1 : w.heap.size < w1.heap.size := (HA.out.below b (Nat.le_refl _)).lt
    replace HA := Bx.mk (HA.out.below b (Nat.le_refl _))
    replace HB := Bx.mk (HB.out.trans (b.mono HB.out.size))
    clear b HC
    go_wp2_with (first | (refine wpList_load_box rfl 63 _ rfl w.heap.size 8 _ _ rfl HA.out _ Try.underlying63 rfl ?hI0 ?_))
    case hI0 => kernel_rfl
    refine (toStore_any _ st w1 hf (HRd.out.below HB.out)).mono ?_
    rintro e w2 ⟨v2, rfl, o2, b⟩
    have hsz_w2 : w1.heap.size ≤ w2.heap.size := b.size
    replace HA := Bx.mk (HA.out.below b (Nat.le_refl _))
    replace HB := Bx.mk (HB.out.trans (b.mono HB.out.size))
    clear b
    go_wp2_with fail
    refine (specStoreNext_any v2 st _ _ w2 hf hi o2).mono ?_
    rintro e w3 ⟨vw, rfl, ow, b⟩
    clear o2
    have hsz_w3 : w2.heap.size ≤ w3.heap.size := b.size
    replace HA := Bx.mk (HA.out.below b (Nat.le_refl _))
    replace HB := Bx.mk (HB.out.trans (b.mono HB.out.size))
    clear b
    have OW := Bx.mk ow
    clear ow
    have HN := Bx.mk (Box.new w3 [.slice none 0 0, .slice none 0 0, .slice none 0 0, .int .i64 0, .slice none 0 0, .int .i64 0, .slice none 0 0, .bool false] 68 rfl rfl)
    go_wp2_with (refine wpList_store_box rfl 68 _ _ rfl w3.heap.size 8 _ _ _ rfl rfl HN.out OW.out.cells ?hI ?_)
    case hI => kernel_rfl
    intro w4 hN hO _
    have b := below_put hO
    have hsz_w4 : w3.heap.size < w4.heap.size := hN.lt
    replace HA := Bx.mk (HA.out.below b (Nat.le_refl _))
    replace OW := Bx.mk (OW.out.below b (Nat.le_refl _))
    replace HB := Bx.mk (HB.out.trans (b.mono HB.out.size))
    have HW := Bx.mk hN
    clear hN hO b HN
    go_wp2_with (first | (refine wpList_load_box rfl 63 _ rfl w.heap.size 8 _ _ rfl HA.out _ Try.underlying63 rfl ?hI0 ?_))
    case hI0 => kernel_rfl
    refine (toStore_any _ st w4 hf (HRd.out.below HB.out)).mono ?_
    rintro e w5 ⟨vx, rfl, ox, b⟩
    have hsz_w5 : w4.heap.size ≤ w5.heap.size := b.size
    replace HA := Bx.mk (HA.out.below b (Nat.le_refl _))
    replace OW := Bx.mk (OW.out.below b (Nat.le_refl _))
    replace HW := Bx.mk (HW.out.below b (Nat.le_refl _))
    replace HB := Bx.mk (HB.out.trans (b.mono HB.out.size))
    clear b
    have OX := Bx.mk ox
    clear ox
    have HN := Bx.mk (Box.new w5 [.slice none 0 0, .slice none 0 0, .slice none 0 0, .int .i64 0, .slice none 0 0, .int .i64 0, .slice none 0 0, .bool false] 68 rfl rfl)
    go_wp2_with (refine wpList_store_box rfl 68 _ _ rfl w5.heap.size 8 _ _ _ rfl rfl HN.out OX.out.cells ?hI ?_)
    case hI => kernel_rfl
    intro w6 hN hO _
    have b := below_put hO
    have hsz_w6 : w5.heap.size < w6.heap.size := hN.lt
    replace HA := Bx.mk (HA.out.below b (Nat.le_refl _))
    replace OW := Bx.mk (OW.out.below b (Nat.le_refl _))
    replace HW := Bx.mk (HW.out.below b (Nat.le_refl _))
    replace OX := Bx.mk (OX.out.below b (Nat.le_refl _))
    replace HB := Bx.mk (HB.out.trans (b.mono HB.out.size))
    have HX := Bx.mk hN
    clear hN hO b HN
    go_wp2_with (first | (refine wpList_load_box rfl 68 _ rfl w5.heap.size 8 _ _ rfl HX.out _ Try.underlying68 rfl ?hI0 ?_))
    case hI0 => kernel_rfl
    refine (implStoreNext_any vx st w6 hf OX.out.rd).mono ?_
    rintro e w7 ⟨vg, rfl, og, b⟩
    have hsz_w7 : w6.heap.size ≤ w7.heap.size := b.size
    replace HA := Bx.mk (HA.out.below b (Nat.le_refl _))
    replace OW := Bx.mk (OW.out.below b (Nat.le_refl _))
    replace HW := Bx.mk (HW.out.below b (Nat.le_refl _))
    replace OX := Bx.mk (OX.out.below b (Nat.le_refl _))
    replace HX := Bx.mk (HX.out.below b (Nat.le_refl _))
    replace HB := Bx.mk (HB.out.trans (b.mono HB.out.size))
    clear b
    have OG := Bx.mk og
    clear og
    have HN := Bx.mk (Box.new w7 [.slice none 0 0, .slice none 0 0, .slice none 0 0, .int .i64 0, .slice none 0 0, .int .i64 0, .slice none 0 0, .bool false] 68 rfl rfl)
    go_wp2_with (refine wpList_store_box rfl 68 _ _ rfl w7.heap.size 8 _ _ _ rfl rfl HN.out OG.out.cells ?hI ?_)
    case hI => kernel_rfl
    intro w8 hN hO _
    have b := below_put hO
    have hsz_w8 : w7.heap.size < w8.heap.size := hN.lt
    replace HA := Bx.mk (HA.out.below b (Nat.le_refl _))
    replace OW := Bx.mk (OW.out.below b (Nat.le_refl _))
    replace HW := Bx.mk (HW.out.below b (Nat.le_refl _))
    replace OX := Bx.mk (OX.out.below b (Nat.le_refl _))
    replace HX := Bx.mk (HX.out.below b (Nat.le_refl _))
    replace OG := Bx.mk (OG.out.below b (Nat.le_refl _))
    replace HB := Bx.mk (HB.out.trans (b.mono HB.out.size))
    have HG := Bx.mk hN
    clear hN hO b HN
    go_wp2_with (first | (refine wpList_load_box rfl 68 _ rfl w7.heap.size 8 _ _ rfl HG.out _ Try.underlying68 rfl ?hI0 ?_) | (refine wpList_load_box rfl 68 _ rfl w3.heap.size 8 _ _ rfl HW.out _ Try.underlying68 rfl ?hI1 ?_))
    case hI0 => kernel_rfl
    case hI1 => kernel_rfl
    refine (eqStore_yes vg vw st.stepped w8 hfs OG.out.rd OW.out.rd).mono ?_
    rintro e w9 ⟨rfl, b⟩
    have hsz_w9 : w8.heap.size ≤ w9.heap.size := b.size
    replace HA := Bx.mk (HA.out.below b (Nat.le_refl _))
    replace OW := Bx.mk (OW.out.below b (Nat.le_refl _))
    replace HW := Bx.mk (HW.out.below b (Nat.le_refl _))
    replace OX := Bx.mk (OX.out.below b (Nat.le_refl _))
    replace HX := Bx.mk (HX.out.below b (Nat.le_refl _))
    replace OG := Bx.mk (OG.out.below b (Nat.le_refl _))
    replace HG := Bx.mk (HG.out.below b (Nat.le_refl _))
    replace HB := Bx.mk (HB.out.trans (b.mono HB.out.size))
    clear b
    go_wp2_with fail
    have c := HA.out.block
    obtain ⟨x0, xc0, x1, xc1, x2, xc2, x4, xc4, x6, xc6, ex, _⟩ := OX.out
    have hx := HX.out
    rw [ex] at hx
    have ca0 := HA.out.cell 0
    have ca1 := HA.out.cell 1
    have ca2 := HA.out.cell 2
    have ca3 := HA.out.cell 3
    have ca4 := HA.out.cell 4
    have ca5 := HA.out.cell 5
    have ca6 := HA.out.cell 6
    have ca7 := HA.out.cell 7
    have cx0 := hx.cell 0
    have cx1 := hx.cell 1
    have cx2 := hx.cell 2
    have cx3 := hx.cell 3
    have cx4 := hx.cell 4
    have cx5 := hx.cell 5
    have cx6 := hx.cell 6
    have cx7 := hx.cell 7
    clear c
    have HXr : Bx (StoreD.Reads w9 (.agg #[.slice x0 st.fRows.length xc0, .slice x1 st.fSpace.fRefs.length xc1, .slice x2 st.fSpace.fLast.length xc2, .int .i64 st.fTxg, .slice x4 st.fGone.length xc4, .int .i64 st.fKeep, .slice x6 st.fDead.length xc6, .bool st.fSame]) st) := ⟨by have := OX.out.rd; rw [ex] at this; exact this⟩
    have hlx := HX.out.lt
    have hdr : Below w9.heap.size w9 w9.drew := (Below.refl _ _).drew
    have HBd := Bx.mk (HB.out.trans (hdr.mono HB.out.size))
    have HEX := Bx.mk ex
    clear hx ex
    go_region_with (first | (go_at_call 33; refine (toStore_any _ st _ hf (HRd.out.below HBd.out)).mono ?_; rintro e w10 ⟨vy, rfl, oy, b⟩; have dx0 := (b.cell (p := ⟨w5.heap.size, 0, none⟩) hlx).trans cx0; have dx1 := (b.cell (p := ⟨w5.heap.size, 1, none⟩) hlx).trans cx1; have dx2 := (b.cell (p := ⟨w5.heap.size, 2, none⟩) hlx).trans cx2; have dx3 := (b.cell (p := ⟨w5.heap.size, 3, none⟩) hlx).trans cx3; have dx4 := (b.cell (p := ⟨w5.heap.size, 4, none⟩) hlx).trans cx4; have dx5 := (b.cell (p := ⟨w5.heap.size, 5, none⟩) hlx).trans cx5; have dx6 := (b.cell (p := ⟨w5.heap.size, 6, none⟩) hlx).trans cx6; have dx7 := (b.cell (p := ⟨w5.heap.size, 7, none⟩) hlx).trans cx7; have OY := Bx.mk oy.rd; have bb := hdr.trans b; have HXy := Bx.mk (HXr.out.below bb); have BB := Bx.mk bb; clear oy b bb) | (go_at_call 35; refine (eqStore_yes _ _ st _ hf HXy.out OY.out).mono ?_; rintro e w11 ⟨rfl, b⟩; have b := BB.out.trans (b.mono BB.out.size)))
    all_goals
      clear ca0 cx0 dx0 ca1 cx1 dx1 ca2 cx2 dx2 ca3 cx3 dx3 ca4 cx4 dx4 ca5 cx5 dx5 ca6 cx6 dx6 ca7 cx7 dx7 HXr HXy OY BB HEX HBd hdr hlx
      have hsz_w11 : w9.heap.size ≤ w11.heap.size := b.size
      replace HA := Bx.mk (HA.out.below b (Nat.le_refl _))
      replace OW := Bx.mk (OW.out.below b (Nat.le_refl _))
      replace HW := Bx.mk (HW.out.below b (Nat.le_refl _))
      replace OX := Bx.mk (OX.out.below b (Nat.le_refl _))
      replace HX := Bx.mk (HX.out.below b (Nat.le_refl _))
      replace OG := Bx.mk (OG.out.below b (Nat.le_refl _))
      replace HG := Bx.mk (HG.out.below b (Nat.le_refl _))
      replace HB := Bx.mk (HB.out.trans (b.mono HB.out.size))
      clear b
      go_wp2_with (first | (refine wpList_load_box rfl 68 _ rfl w5.heap.size 8 _ _ rfl HX.out _ Try.underlying68 rfl ?hI0 ?_))
      case hI0 => kernel_rfl
      refine (markStore_any vx st w4.heap.size w5.heap.size 1 w11 (by omega) (by omega) hf OX.out (by omega)).mono ?_
      rintro e w12 ⟨rfl, _, hO⟩
      clear OX HX
      have hsz_w12 : w11.heap.size ≤ w12.heap.size := hO.size
      replace HA := Bx.mk (HA.out.outside hO (.inl (by omega)))
      replace OW := Bx.mk (OW.out.outside hO (.inl (by omega)))
      replace HW := Bx.mk (HW.out.outside hO (.inl (by omega)))
      replace OG := Bx.mk (OG.out.outside hO (.inr (by omega)))
      replace HG := Bx.mk (HG.out.outside hO (.inr (by omega)))
      replace HB := Bx.mk (HB.out.trans ((hO.below (by omega)).mono (by omega)))
      clear hO
      go_wp2_with (first | (refine wpList_load_boxg 68 _ rfl rfl w7.heap.size 8 _ _ rfl HG.out _ Try.underlying68 rfl ?hI0 ?_) | (refine wpList_load_boxg 68 _ rfl rfl w3.heap.size 8 _ _ rfl HW.out _ Try.underlying68 rfl ?hI1 ?_))
      case hI0 => kernel_rfl
      case hI1 => kernel_rfl
      refine (eqStore_yes vg vw st.stepped w12 hfs OG.out.rd OW.out.rd).mono ?_
      rintro e w13 ⟨rfl, b⟩
      have hsz_w13 : w12.heap.size ≤ w13.heap.size := b.size
      replace HA := Bx.mk (HA.out.below b (Nat.le_refl _))
      replace OW := Bx.mk (OW.out.below b (Nat.le_refl _))
      replace HW := Bx.mk (HW.out.below b (Nat.le_refl _))
      replace OG := Bx.mk (OG.out.below b (Nat.le_refl _))
      replace HG := Bx.mk (HG.out.below b (Nat.le_refl _))
      replace HB := Bx.mk (HB.out.trans (b.mono HB.out.size))
      clear b
      go_wp2_with (first | (refine wpList_load_box rfl 68 _ rfl w7.heap.size 8 _ _ rfl HG.out _ Try.underlying68 rfl ?hI0 ?_))
      case hI0 => kernel_rfl
      refine (markStore_any vg st.stepped w6.heap.size w7.heap.size 1 w13 (by omega) (by omega) hfs OG.out (by omega)).mono ?_
      rintro e w14 ⟨rfl, og, hO⟩
      clear OG
      have hsz_w14 : w13.heap.size ≤ w14.heap.size := hO.size
      replace HA := Bx.mk (HA.out.outside hO (.inl (by omega)))
      replace OW := Bx.mk (OW.out.outside hO (.inl (by omega)))
      replace HW := Bx.mk (HW.out.outside hO (.inl (by omega)))
      replace HG := Bx.mk (HG.out.outside hO (.inr (by omega)))
      replace HB := Bx.mk (HB.out.trans ((hO.below (by omega)).mono (by omega)))
      clear hO
      have OG := Bx.mk og
      clear og
      go_wp2_with (first | (refine wpList_load_box rfl 68 _ rfl w7.heap.size 8 _ _ rfl HG.out _ Try.underlying68 rfl ?hI0 ?_))
      case hI0 => kernel_rfl
      refine (heldStore_any vg st.stepped 1 w14 (by omega) (by omega) hfs OG.out.rd).mono ?_
      rintro e w15 ⟨rfl, b⟩
      have hsz_w15 : w14.heap.size ≤ w15.heap.size := b.size
      replace HA := Bx.mk (HA.out.below b (Nat.le_refl _))
      replace OW := Bx.mk (OW.out.below b (Nat.le_refl _))
      replace HW := Bx.mk (HW.out.below b (Nat.le_refl _))
      replace HG := Bx.mk (HG.out.below b (Nat.le_refl _))
      replace OG := Bx.mk (OG.out.below b (Nat.le_refl _))
      replace HB := Bx.mk (HB.out.trans (b.mono HB.out.size))
      clear b
      go_wp2_with (first | (refine wpList_load_box rfl 63 _ rfl w.heap.size 8 _ _ rfl HA.out _ Try.underlying63 rfl ?hI0 ?_))
      case hI0 => kernel_rfl
      refine (toStore_any _ st w15 hf (HRd.out.below HB.out)).mono ?_
      rintro e w16 ⟨vy, rfl, oy, b⟩
      have hsz_w16 : w15.heap.size ≤ w16.heap.size := b.size
      replace HA := Bx.mk (HA.out.below b (Nat.le_refl _))
      replace OW := Bx.mk (OW.out.below b (Nat.le_refl _))
      replace HW := Bx.mk (HW.out.below b (Nat.le_refl _))
      replace HG := Bx.mk (HG.out.below b (Nat.le_refl _))
      replace OG := Bx.mk (OG.out.below b (Nat.le_refl _))
      replace HB := Bx.mk (HB.out.trans (b.mono HB.out.size))
      clear b
      go_wp2_with fail
      refine (implStoreNext_any vy st w16 hf oy.rd).mono ?_
      rintro e w17 ⟨vh, rfl, oh, b⟩
      clear oy
      have hsz_w17 : w16.heap.size ≤ w17.heap.size := b.size
      replace HA := Bx.mk (HA.out.below b (Nat.le_refl _))
      replace OW := Bx.mk (OW.out.below b (Nat.le_refl _))
      replace HW := Bx.mk (HW.out.below b (Nat.le_refl _))
      replace HG := Bx.mk (HG.out.below b (Nat.le_refl _))
      replace OG := Bx.mk (OG.out.below b (Nat.le_refl _))
      replace HB := Bx.mk (HB.out.trans (b.mono HB.out.size))
      clear b
      have OH := Bx.mk oh
      clear oh
      have HN := Bx.mk (Box.new w17 [.slice none 0 0, .slice none 0 0, .slice none 0 0, .int .i64 0, .slice none 0 0, .int .i64 0, .slice none 0 0, .bool false] 68 rfl rfl)
      go_wp2_with (refine wpList_store_box rfl 68 _ _ rfl w17.heap.size 8 _ _ _ rfl rfl HN.out OH.out.cells ?hI ?_)
      case hI => kernel_rfl
      intro w18 hN hO _
      have b := below_put hO
      have hsz_w18 : w17.heap.size < w18.heap.size := hN.lt
      replace HA := Bx.mk (HA.out.below b (Nat.le_refl _))
      replace OW := Bx.mk (OW.out.below b (Nat.le_refl _))
      replace HW := Bx.mk (HW.out.below b (Nat.le_refl _))
      replace HG := Bx.mk (HG.out.below b (Nat.le_refl _))
      replace OG := Bx.mk (OG.out.below b (Nat.le_refl _))
      replace OH := Bx.mk (OH.out.below b (Nat.le_refl _))
      replace HB := Bx.mk (HB.out.trans (b.mono HB.out.size))
      have HH := Bx.mk hN
      clear hN hO b HN
      go_wp2_with (first | (refine wpList_load_box rfl 68 _ rfl w17.heap.size 8 _ _ rfl HH.out _ Try.underlying68 rfl ?hI0 ?_) | (refine wpList_load_box rfl 68 _ rfl w3.heap.size 8 _ _ rfl HW.out _ Try.underlying68 rfl ?hI1 ?_))
      case hI0 => kernel_rfl
      case hI1 => kernel_rfl
      refine (eqStore_yes vh vw st.stepped w18 hfs OH.out.rd OW.out.rd).mono ?_
      rintro e w19 ⟨rfl, b⟩
      have hsz_w19 : w18.heap.size ≤ w19.heap.size := b.size
      replace HA := Bx.mk (HA.out.below b (Nat.le_refl _))
      replace OW := Bx.mk (OW.out.below b (Nat.le_refl _))
      replace HW := Bx.mk (HW.out.below b (Nat.le_refl _))
      replace HG := Bx.mk (HG.out.below b (Nat.le_refl _))
      replace OG := Bx.mk (OG.out.below b (Nat.le_refl _))
      replace OH := Bx.mk (OH.out.below b (Nat.le_refl _))
      replace HH := Bx.mk (HH.out.below b (Nat.le_refl _))
      replace HB := Bx.mk (HB.out.trans (b.mono HB.out.size))
      clear b
      go_wp2_with (first | (refine wpList_load_box rfl 68 _ rfl w7.heap.size 8 _ _ rfl HG.out _ Try.underlying68 rfl ?hI0 ?_))
      case hI0 => kernel_rfl
      refine (heldStore_any vg st.stepped 1 w19 (by omega) (by omega) hfs OG.out.rd).mono ?_
      rintro e w20 ⟨rfl, b⟩
      replace HB := Bx.mk (HB.out.trans (b.mono HB.out.size))
      clear b
      go_wp2
      go_ret
      exact ⟨rfl, HB.out⟩
end Go.Proofs.Ytkgmilobmbeplaa
