/- The reference's l7Next and StoreNext. -/
import Derived.Test.YtkgmilobmbeplaaNextR
import Derived.Test.YtkgmilobmbeplaaStoreOkS
namespace Go.Proofs.Ytkgmilobmbeplaa
open Go.RowKit

theorem l7Drop_n (a0 : Option Addr) (c0 : Nat) (a1 : Option Addr) (c1 : Nat) (a2 : Option Addr) (c2 n0 n1 n2 : Nat) (tx : Int) (a4 : Option Addr) (l4 c4 : Nat) (kp : Int) (a6 : Option Addr) (l6 c6 : Nat) (sm : Bool) (x : List ByteArray × SpaceD) (p : PtrD) (B B1 : Nat) (w : World) (h0 : x.1.length = n0) (h1 : x.2.fRefs.length = n1) (h2 : x.2.fLast.length = n2) (e0 : n0 = 64) (e1 : n1 = 64) (e2 : n2 = 64)
    (hp : 8 ≤ p.fAt ∧ p.fAt ≤ 63) (hv0 : 1 ≤ x.2.fRefs.getD p.fAt.toNat 0) (hv1 : x.2.fRefs.getD p.fAt.toNat 0 ≤ 1000000)
    (q0 : RowO encS 1 9 w B B1 (.slice a0 n0 c0) x.1) (q1 : RowO encI 1 3 w B B1 (.slice a1 n1 c1) x.2.fRefs) (q2 : RowO encI 1 3 w B B1 (.slice a2 n2 c2) x.2.fLast)
    (p01 : Apart (.slice a0 n0 c0) (.slice a1 n1 c1)) (p02 : Apart (.slice a0 n0 c0) (.slice a2 n2 c2)) (p12 : Apart (.slice a1 n1 c1) (.slice a2 n2 c2)) :
    Calls Try.prog 115 #[.agg #[.slice a0 n0 c0, .slice a1 n1 c1, .slice a2 n2 c2, .int .i64 tx, .slice a4 l4 c4, .int .i64 kp, .slice a6 l6 c6, .bool sm], .int .i64 p.fAt] w fun e w' => e = .returned (.agg #[.slice a0 n0 c0, .slice a1 n1 c1, .slice a2 n2 c2, .int .i64 tx, .slice a4 l4 c4, .int .i64 kp, .slice a6 l6 c6, .bool sm]) ∧
      RowO encS 1 9 w' B B1 (.slice a0 n0 c0) (dropRS x p).1 ∧ RowO encI 1 3 w' B B1 (.slice a1 n1 c1) (dropRS x p).2.fRefs ∧ RowO encI 1 3 w' B B1 (.slice a2 n2 c2) (dropRS x p).2.fLast ∧
      GrownAll [.slice a0 n0 c0, .slice a1 n1 c1, .slice a2 n2 c2] w w' := by
  obtain ⟨a, ha⟩ : ∃ a : Nat, p.fAt = (a : Int) := ⟨p.fAt.toNat, by omega⟩
  subst h0 h1 h2
  unfold dropRS
  rw [ha] at hv0 hv1 ⊢
  rw [Int.toNat_natCast] at hv0 hv1 ⊢
  exact l7Drop_any a0 c0 a1 c1 a2 c2 tx a4 l4 c4 kp a6 l6 c6 sm x.1 x.2 a B B1 w (by omega) (by omega) (by omega) (by omega) (by omega) (by omega) hv0 hv1 q0 q1 q2 p01 p02 p12

set_option maxHeartbeats 1000000 in
set_option maxRecDepth 100000 in
theorem l7Next_any (a0 : Option Addr) (c0 : Nat) (a1 : Option Addr) (c1 : Nat) (a2 : Option Addr) (c2 : Nat) (a4 : Option Addr) (c4 : Nat) (a6 : Option Addr) (c6 : Nat) (st : StoreD) (B B1 : Nat) (w : World)
    (h0 : st.fRows.length = 64) (h1 : st.fSpace.fRefs.length = 64) (h2 : st.fSpace.fLast.length = 64) (hl4 : st.fGone.length ≤ 1048576) (htx : 1 ≤ st.fTxg ∧ st.fTxg ≤ 900)
    (hin : ∀ p ∈ st.fGone, 8 ≤ p.fAt ∧ p.fAt ≤ 63) (how : ∀ i, i < 64 → (cnt st.fGone i : Int) ≤ st.fSpace.fRefs.getD i 0) (hmx : ∀ i, i < 64 → st.fSpace.fRefs.getD i 0 ≤ 900)
    (q0 : RowO encS 1 9 w B B1 (.slice a0 st.fRows.length c0) st.fRows) (q1 : RowO encI 1 3 w B B1 (.slice a1 st.fSpace.fRefs.length c1) st.fSpace.fRefs) (q2 : RowO encI 1 3 w B B1 (.slice a2 st.fSpace.fLast.length c2) st.fSpace.fLast) (q4 : RowO PtrD.cells 5 78 w B B1 (.slice a4 st.fGone.length c4) st.fGone)
    (p01 : Apart (.slice a0 st.fRows.length c0) (.slice a1 st.fSpace.fRefs.length c1)) (p02 : Apart (.slice a0 st.fRows.length c0) (.slice a2 st.fSpace.fLast.length c2)) (p12 : Apart (.slice a1 st.fSpace.fRefs.length c1) (.slice a2 st.fSpace.fLast.length c2))
    (p40 : Apart (.slice a4 st.fGone.length c4) (.slice a0 st.fRows.length c0)) (p41 : Apart (.slice a4 st.fGone.length c4) (.slice a1 st.fSpace.fRefs.length c1)) (p42 : Apart (.slice a4 st.fGone.length c4) (.slice a2 st.fSpace.fLast.length c2)) :
    Calls Try.prog 70 #[.agg #[.slice a0 st.fRows.length c0, .slice a1 st.fSpace.fRefs.length c1, .slice a2 st.fSpace.fLast.length c2, .int .i64 st.fTxg, .slice a4 st.fGone.length c4, .int .i64 st.fKeep, .slice a6 st.fDead.length c6, .bool st.fSame]] w fun e w' => ∃ d4, e = .returned (.agg #[.slice a0 st.fRows.length c0, .slice a1 st.fSpace.fRefs.length c1, .slice a2 st.fSpace.fLast.length c2, .int .i64 (st.fTxg + 1), .slice d4 0 0, .int .i64 st.fKeep, .slice a6 st.fDead.length c6, .bool st.fSame]) ∧
      RowO encS 1 9 w' B B1 (.slice a0 st.fRows.length c0) (dropsRS (st.fRows, st.fSpace) st.fGone).1 ∧ RowO encI 1 3 w' B B1 (.slice a1 st.fSpace.fRefs.length c1) (dropsRS (st.fRows, st.fSpace) st.fGone).2.fRefs ∧ RowO encI 1 3 w' B B1 (.slice a2 st.fSpace.fLast.length c2) (dropsRS (st.fRows, st.fSpace) st.fGone).2.fLast ∧
      GrownAll [.slice a0 st.fRows.length c0, .slice a1 st.fSpace.fRefs.length c1, .slice a2 st.fSpace.fLast.length c2] w w' := by
  have n0 : ∀ g, Value.rowBlock (.slice a0 st.fRows.length c0) = some g → g < w.heap.size := fun g e => (q0.lt g e).2.2
  have n1 : ∀ g, Value.rowBlock (.slice a1 st.fSpace.fRefs.length c1) = some g → g < w.heap.size := fun g e => (q1.lt g e).2.2
  have n2 : ∀ g, Value.rowBlock (.slice a2 st.fSpace.fLast.length c2) = some g → g < w.heap.size := fun g e => (q2.lt g e).2.2
  have NS := Bx.mk (And.intro n0 (And.intro n1 n2))
  have HS := Bx.mk (And.intro h0 (And.intro h1 h2))
  have QS := Bx.mk (And.intro q0 (And.intro q1 (And.intro q2 q4)))
  have PS := Bx.mk (And.intro p01 (And.intro p02 (And.intro p12 (And.intro p40 (And.intro p41 p42)))))
  have HIN := Bx.mk (And.intro hin (And.intro how hmx))
  have HX := Bx.mk ((Box.new w [.slice a0 st.fRows.length c0, .slice a1 st.fSpace.fRefs.length c1, .slice a2 st.fSpace.fLast.length c2, .int .i64 st.fTxg, .slice a4 st.fGone.length c4, .int .i64 st.fKeep, .slice a6 st.fDead.length c6, .bool st.fSame] 68 rfl rfl).alloc (.cells #[.slice none 0 0, .slice none 0 0, .slice none 0 0, .int .i64 0, .slice none 0 0, .int .i64 0, .slice none 0 0, .bool false] 68))
  have HR := Bx.mk (Box.new (w.alloc (.cells #[.slice a0 st.fRows.length c0, .slice a1 st.fSpace.fRefs.length c1, .slice a2 st.fSpace.fLast.length c2, .int .i64 st.fTxg, .slice a4 st.fGone.length c4, .int .i64 st.fKeep, .slice a6 st.fDead.length c6, .bool st.fSame] 68)) [.slice none 0 0, .slice none 0 0, .slice none 0 0, .int .i64 0, .slice none 0 0, .int .i64 0, .slice none 0 0, .bool false] 68 rfl (sz_alloc _ _).symm)
  have HB : Bx (Below w.heap.size w ((w.alloc (.cells #[.slice a0 st.fRows.length c0, .slice a1 st.fSpace.fRefs.length c1, .slice a2 st.fSpace.fLast.length c2, .int .i64 st.fTxg, .slice a4 st.fGone.length c4, .int .i64 st.fKeep, .slice a6 st.fDead.length c6, .bool st.fSame] 68)).alloc (.cells #[.slice none 0 0, .slice none 0 0, .slice none 0 0, .int .i64 0, .slice none 0 0, .int .i64 0, .slice none 0 0, .bool false] 68))) := ⟨((Below.refl _ _).alloc (Nat.le_refl _) _).alloc (by simp) _⟩
  clear n0 n1 n2 h0 h1 h2 q0 q1 q2 q4 p01 p02 p12 p40 p41 p42 hin how hmx
  go_enter Try.func70, Try.ntmps70
  go_wp2
  generalize (w.alloc (.cells #[.slice a0 st.fRows.length c0, .slice a1 st.fSpace.fRefs.length c1, .slice a2 st.fSpace.fLast.length c2, .int .i64 st.fTxg, .slice a4 st.fGone.length c4, .int .i64 st.fKeep, .slice a6 st.fDead.length c6, .bool st.fSame] 68)).alloc (.cells #[.slice none 0 0, .slice none 0 0, .slice none 0 0, .int .i64 0, .slice none 0 0, .int .i64 0, .slice none 0 0, .bool false] 68) = W at *
  have hW : w.heap.size + 1 < W.heap.size := HR.out.lt
  go_loopw [3] (fun i wr => ∃ k : Nat, k ≤ st.fGone.length ∧ i = .int .i64 k ∧ Box wr w.heap.size 8 68 (.agg #[.slice a0 st.fRows.length c0, .slice a1 st.fSpace.fRefs.length c1, .slice a2 st.fSpace.fLast.length c2, .int .i64 st.fTxg, .slice a4 st.fGone.length c4, .int .i64 st.fKeep, .slice a6 st.fDead.length c6, .bool st.fSame]) ∧ Box wr (w.heap.size + 1) 8 68 (.agg #[.slice none 0 0, .slice none 0 0, .slice none 0 0, .int .i64 0, .slice none 0 0, .int .i64 0, .slice none 0 0, .bool false]) ∧ GrownAll [.slice a0 st.fRows.length c0, .slice a1 st.fSpace.fRefs.length c1, .slice a2 st.fSpace.fLast.length c2] w wr ∧
      RowO encS 1 9 wr B B1 (.slice a0 st.fRows.length c0) (dropsRS (st.fRows, st.fSpace) (st.fGone.take k)).1 ∧ RowO encI 1 3 wr B B1 (.slice a1 st.fSpace.fRefs.length c1) (dropsRS (st.fRows, st.fSpace) (st.fGone.take k)).2.fRefs ∧ RowO encI 1 3 wr B B1 (.slice a2 st.fSpace.fLast.length c2) (dropsRS (st.fRows, st.fSpace) (st.fGone.take k)).2.fLast) (fun i _ => st.fGone.length - (intOf i).toNat)
  case atStart => exact ⟨0, Nat.zero_le _, rfl, HX.out, HR.out, GrownAll.of_below HB.out (Nat.le_refl _), QS.out.1.below HB.out (Nat.le_refl _), QS.out.2.1.below HB.out (Nat.le_refl _), QS.out.2.2.1.below HB.out (Nat.le_refl _)⟩
  case round =>
    obtain ⟨k, hk, rfl, hX, hR, hG, m0, m1, m2⟩ := hrel
    clear HX HR HB
    by_cases hlt : k < st.fGone.length
    · obtain ⟨r4, _⟩ := (QS.out.2.2.2.all hG (all3 PS.out.2.2.2.1 PS.out.2.2.2.2.1 PS.out.2.2.2.2.2)).copy PtrD.cells_len
      obtain ⟨b4, off, p, hp, rfl, hbl, hrg⟩ := r4.at_ k hlt
      obtain ⟨d0, d1, d2, d3, d4⟩ := PtrD.at_ hrg
      have hsn : Bx (st.fGone.take (k + 1) = st.fGone.take k ++ [p]) := ⟨by obtain ⟨hj, he⟩ := List.getElem?_eq_some_iff.1 hp; rw [List.take_succ_eq_append_getElem hj, he]⟩
      have hps := drops_pos (rows := st.fRows) HS.out.2.1 HIN.out.1 HIN.out.2.1 hp
      have hpin := HIN.out.1 p (by obtain ⟨hj, he⟩ := List.getElem?_eq_some_iff.1 hp; rw [← he]; exact List.getElem_mem _)
      have hpm := HIN.out.2.2 p.fAt.toNat (by omega)
      obtain ⟨l0, l1, l2⟩ := dropsRS_len (st.fRows, st.fSpace) (st.fGone.take k)
      have hbd : Below wr.heap.size wr wr.drew := (Below.refl _ _).drew
      have HC := Bx.mk (l7Drop_n a0 c0 a1 c1 a2 c2 _ _ _ st.fTxg (some ⟨b4, off, none⟩) st.fGone.length c4 st.fKeep a6 st.fDead.length c6 st.fSame _ p B B1 wr.drew l0 l1 l2 HS.out.1 HS.out.2.1 HS.out.2.2 hpin hps.1 (by omega)
        (m0.below hbd (Nat.le_refl _)) (m1.below hbd (Nat.le_refl _)) (m2.below hbd (Nat.le_refl _)) PS.out.1 PS.out.2.1 PS.out.2.2.1)
      have x0 : wr.cell? ⟨w.heap.size, 0, none⟩ = some (.slice a0 st.fRows.length c0) := hX.cell 0
      have x1 : wr.cell? ⟨w.heap.size, 1, none⟩ = some (.slice a1 st.fSpace.fRefs.length c1) := hX.cell 1
      have x2 : wr.cell? ⟨w.heap.size, 2, none⟩ = some (.slice a2 st.fSpace.fLast.length c2) := hX.cell 2
      have x3 : wr.cell? ⟨w.heap.size, 3, none⟩ = some (.int .i64 st.fTxg) := hX.cell 3
      have x4 : wr.cell? ⟨w.heap.size, 4, none⟩ = some (.slice (some ⟨b4, off, none⟩) st.fGone.length c4) := hX.cell 4
      have x5 : wr.cell? ⟨w.heap.size, 5, none⟩ = some (.int .i64 st.fKeep) := hX.cell 5
      have x6 : wr.cell? ⟨w.heap.size, 6, none⟩ = some (.slice a6 st.fDead.length c6) := hX.cell 6
      have x7 : wr.cell? ⟨w.heap.size, 7, none⟩ = some (.bool st.fSame) := hX.cell 7
      have HX := Bx.mk (hX.below hbd (Nat.le_refl _))
      have HR := Bx.mk (hR.below hbd (Nat.le_refl _))
      have HG := Bx.mk (hG.trans (GrownAll.of_below hbd (Nat.le_refl _)))
      have hszr : W.heap.size ≤ wr.heap.size ∨ True := .inr trivial
      clear hX hR hG m0 m1 m2 r4 hp hrg hps hpin hpm l0 l1 l2 hbd hszr
      go_wp2_with fail
      go_still_tail 7, (by kernel_rfl)
      change wpList _ _ _ _ _ wr.drew
      clear d0 d1 d2 d3 d4 x0 x1 x2 x3 x4 x5 x6 x7
      generalize wr.drew = wd at *
      go_wp2_with fail
      refine HC.out.mono ?_
      rintro e w2 ⟨rfl, m0, m1, m2, hg⟩
      have hX2 := HX.out.all hg (all3 (fun e => Nat.lt_irrefl _ (NS.out.1 _ e)) (fun e => Nat.lt_irrefl _ (NS.out.2.1 _ e)) (fun e => Nat.lt_irrefl _ (NS.out.2.2 _ e)))
      have hR2 := HR.out.all hg (all3 (fun e => absurd (NS.out.1 _ e) (by omega)) (fun e => absurd (NS.out.2.1 _ e) (by omega)) (fun e => absurd (NS.out.2.2 _ e) (by omega)))
      have HG2 := Bx.mk (HG.out.trans hg)
      have M := Bx.mk (And.intro m0 (And.intro m1 m2))
      clear m0 m1 m2 hg
      go_wp2_with (refine wpList_store_box rfl 68 _ _ rfl w.heap.size 8 _ _ _ rfl rfl hX2 hX2.cells ?hInf ?_)
      case hInf => kernel_rfl
      intro w3 hX3 hO3 hs3
      have hR3 := hR2.outside hO3 (.inr (Nat.le_refl _))
      have HG3 := HG2.out.box hO3 (Nat.le_refl _)
      have M3 := Bx.mk (And.intro (M.out.1.box hO3 NS.out.1) (And.intro (M.out.2.1.box hO3 NS.out.2.1) (M.out.2.2.box hO3 NS.out.2.2)))
      have HX3 := Bx.mk hX3
      have HR3 := Bx.mk hR3
      have HG3 := Bx.mk HG3
      clear hX3 hO3 hs3 hR3 hX2 hR2
      go_wp2
      go_roundw
      case rel =>
        refine ⟨k + 1, by omega, by go_num, HX3.out, HR3.out, HG3.out, ?_⟩
        rw [hsn.out, dropsRS_snoc]
        exact M3.out
      case measure => simp [intOf]; omega
    · have hk' : k = st.fGone.length := by omega
      subst hk'
      rw [List.take_length] at m0 m1 m2
      have x3 : wr.cell? ⟨w.heap.size, 3, none⟩ = some (.int .i64 st.fTxg) := hX.cell 3
      have x4 : wr.cell? ⟨w.heap.size, 4, none⟩ = some (.slice a4 st.fGone.length c4) := hX.cell 4
      have y3 := hX.frozen 3
      have y4 := hX.frozen 4
      have hwr : w.heap.size + 1 < wr.heap.size := hR.lt
      have hwr0 : w.heap.size < wr.heap.size := by omega
      have hX1 : Box (((wr.setCell ⟨w.heap.size, 4, none⟩ (.slice (some ⟨wr.heap.size, 0, none⟩) 0 0)).setCell ⟨w.heap.size, 3, none⟩ (.int .i64 (st.fTxg + 1))).alloc (.cells #[] 78)) w.heap.size 8 68 (.agg #[.slice a0 st.fRows.length c0, .slice a1 st.fSpace.fRefs.length c1, .slice a2 st.fSpace.fLast.length c2, .int .i64 (st.fTxg + 1), .slice (some ⟨wr.heap.size, 0, none⟩) 0 0, .int .i64 st.fKeep, .slice a6 st.fDead.length c6, .bool st.fSame]) := ((hX.putField 4 (u := .slice (some ⟨wr.heap.size, 0, none⟩) 0 0) rfl).putField 3 (u := .int .i64 (st.fTxg + 1)) rfl).alloc (.cells #[] 78)
      have hR1 := ((hR.setCell (p := ⟨w.heap.size, 4, none⟩) (by simp) (.slice (some ⟨wr.heap.size, 0, none⟩) 0 0)).setCell (p := ⟨w.heap.size, 3, none⟩) (by simp) (.int .i64 (st.fTxg + 1))).alloc (.cells #[] 78)
      have hO1 : Outside w.heap.size (w.heap.size + 1) wr (((wr.setCell ⟨w.heap.size, 4, none⟩ (.slice (some ⟨wr.heap.size, 0, none⟩) 0 0)).setCell ⟨w.heap.size, 3, none⟩ (.int .i64 (st.fTxg + 1))).alloc (.cells #[] 78)) := (((Outside.refl _ _ _).set (by simp) _).set (by simp) _).trans (Outside.alloc _ _ _ _)
      have HO := Bx.mk hO1
      have M := Bx.mk (And.intro m0 (And.intro m1 m2))
      have HG := Bx.mk hG
      have HX := Bx.mk hX1
      have HR := Bx.mk hR1
      clear m0 m1 m2 hG hX1 hR1 hO1 hX hR
      go_wp2_with (first | (refine wpList_load_box rfl 68 _ rfl w.heap.size 8 _ _ rfl HX.out _ Try.underlying68 rfl ?hI1 ?_) | (refine wpList_store_box rfl 68 _ _ rfl (w.heap.size + 1) 8 _ _ _ rfl rfl HR.out HX.out.cells ?hI2 ?_))
      case hI1 => kernel_rfl
      case hI2 => kernel_rfl
      intro w5 hR5 hO5 hs5
      go_wp2
      refine bodyPost_ret (v := .agg #[.slice a0 st.fRows.length c0, .slice a1 st.fSpace.fRefs.length c1, .slice a2 st.fSpace.fLast.length c2, .int .i64 (st.fTxg + 1), .slice (some ⟨wr.heap.size, 0, none⟩) 0 0, .int .i64 st.fKeep, .slice a6 st.fDead.length c6, .bool st.fSame]) (by simp [results, Try.results70, go_sem, hR5.cell 0, hR5.cell 1, hR5.cell 2, hR5.cell 3, hR5.cell 4, hR5.cell 5, hR5.cell 6, hR5.cell 7]) rfl ?_
      have n1 : ∀ {v : Value}, (∀ g, Value.rowBlock v = some g → g < w.heap.size) → ∀ g, Value.rowBlock v = some g → g < w.heap.size + 1 := fun h g e => Nat.lt_succ_of_lt (h g e)
      exact ⟨_, rfl, (M.out.1.box HO.out NS.out.1).box hO5 (n1 NS.out.1), (M.out.2.1.box HO.out NS.out.2.1).box hO5 (n1 NS.out.2.1), (M.out.2.2.box HO.out NS.out.2.2).box hO5 (n1 NS.out.2.2), (HG.out.box HO.out (Nat.le_refl _)).box hO5 (by omega)⟩
end Go.Proofs.Ytkgmilobmbeplaa
