/- The program's (*Store).next. -/
import Derived.Test.YtkgmilobmbeplaaNextP
namespace Go.Proofs.Ytkgmilobmbeplaa
open Go.RowKit

theorem all3 {p : Value → Prop} {a b c : Value} (ha : p a) (hb : p b) (hc : p c) : ∀ v ∈ [a, b, c], p v := by simp [ha, hb, hc]

/-- Room for the store's own block among rows that turn. -/
def selfB (b : Nat) : Value := .slice (some ⟨b, 0, none⟩) 1 1
theorem selfB_row (b : Nat) : Value.rowBlock (selfB b) = some b := rfl

theorem drop_n (b : Nat) (a0 : Option Addr) (c0 : Nat) (a1 : Option Addr) (c1 : Nat) (a2 : Option Addr) (c2 n0 n1 n2 : Nat) (x : List ByteArray × SpaceD) (p : PtrD) (B B1 : Nat) (w : World) (h0 : x.1.length = n0) (h1 : x.2.fRefs.length = n1) (h2 : x.2.fLast.length = n2) (e0 : n0 = 64) (e1 : n1 = 64) (e2 : n2 = 64)
    (hp : 8 ≤ p.fAt ∧ p.fAt ≤ 63) (hv0 : 1 ≤ x.2.fRefs.getD p.fAt.toNat 0) (hv1 : x.2.fRefs.getD p.fAt.toNat 0 ≤ 1000000)
    (k0 : w.cell? ⟨b, 0, none⟩ = some (.slice a0 n0 c0)) (k1 : w.cell? ⟨b, 1, none⟩ = some (.slice a1 n1 c1)) (k2 : w.cell? ⟨b, 2, none⟩ = some (.slice a2 n2 c2)) (hbB : B1 ≤ b) (hbw : b < w.heap.size)
    (q0 : RowO encS 1 9 w B B1 (.slice a0 n0 c0) x.1) (q1 : RowO encI 1 3 w B B1 (.slice a1 n1 c1) x.2.fRefs) (q2 : RowO encI 1 3 w B B1 (.slice a2 n2 c2) x.2.fLast)
    (p01 : Apart (.slice a0 n0 c0) (.slice a1 n1 c1)) (p02 : Apart (.slice a0 n0 c0) (.slice a2 n2 c2)) (p12 : Apart (.slice a1 n1 c1) (.slice a2 n2 c2)) :
    Calls Try.prog 122 #[.pointer (some ⟨b, 0, none⟩), .int .i64 p.fAt] w fun e w' => e = .returned (.tuple #[]) ∧
      RowO encS 1 9 w' B B1 (.slice a0 n0 c0) (dropRS x p).1 ∧ RowO encI 1 3 w' B B1 (.slice a1 n1 c1) (dropRS x p).2.fRefs ∧ RowO encI 1 3 w' B B1 (.slice a2 n2 c2) (dropRS x p).2.fLast ∧
      GrownAll [.slice a0 n0 c0, .slice a1 n1 c1, .slice a2 n2 c2] w w' := by
  obtain ⟨a, ha⟩ : ∃ a : Nat, p.fAt = (a : Int) := ⟨p.fAt.toNat, by omega⟩
  subst h0 h1 h2
  unfold dropRS
  rw [ha] at hv0 hv1 ⊢
  rw [Int.toNat_natCast] at hv0 hv1 ⊢
  exact drop_any b a0 c0 a1 c1 a2 c2 x.1 x.2 a B B1 w (by omega) (by omega) (by omega) (by omega) (by omega) (by omega) hv0 hv1 k0 k1 k2 hbB hbw q0 q1 q2 p01 p02 p12

set_option maxHeartbeats 1000000 in
set_option maxRecDepth 100000 in
theorem next_any (b : Nat) (a0 : Option Addr) (c0 : Nat) (a1 : Option Addr) (c1 : Nat) (a2 : Option Addr) (c2 : Nat) (a4 : Option Addr) (c4 : Nat) (a6 : Option Addr) (c6 : Nat) (st : StoreD) (B B1 : Nat) (w : World)
    (h0 : st.fRows.length = 64) (h1 : st.fSpace.fRefs.length = 64) (h2 : st.fSpace.fLast.length = 64) (hl4 : st.fGone.length ≤ 1048576) (htx : 1 ≤ st.fTxg ∧ st.fTxg ≤ 900)
    (hin : ∀ p ∈ st.fGone, 8 ≤ p.fAt ∧ p.fAt ≤ 63) (how : ∀ i, i < 64 → (cnt st.fGone i : Int) ≤ st.fSpace.fRefs.getD i 0) (hmx : ∀ i, i < 64 → st.fSpace.fRefs.getD i 0 ≤ 900)
    (hA : w.heap[b]? = some (.cells #[.slice a0 st.fRows.length c0, .slice a1 st.fSpace.fRefs.length c1, .slice a2 st.fSpace.fLast.length c2, .int .i64 st.fTxg, .slice a4 st.fGone.length c4, .int .i64 st.fKeep, .slice a6 st.fDead.length c6, .bool st.fSame] 68 (0, 0))) (hbB : B1 ≤ b)
    (q0 : RowO encS 1 9 w B B1 (.slice a0 st.fRows.length c0) st.fRows) (q1 : RowO encI 1 3 w B B1 (.slice a1 st.fSpace.fRefs.length c1) st.fSpace.fRefs) (q2 : RowO encI 1 3 w B B1 (.slice a2 st.fSpace.fLast.length c2) st.fSpace.fLast) (q4 : RowO PtrD.cells 5 78 w B B1 (.slice a4 st.fGone.length c4) st.fGone)
    (p01 : Apart (.slice a0 st.fRows.length c0) (.slice a1 st.fSpace.fRefs.length c1)) (p02 : Apart (.slice a0 st.fRows.length c0) (.slice a2 st.fSpace.fLast.length c2)) (p12 : Apart (.slice a1 st.fSpace.fRefs.length c1) (.slice a2 st.fSpace.fLast.length c2))
    (p40 : Apart (.slice a4 st.fGone.length c4) (.slice a0 st.fRows.length c0)) (p41 : Apart (.slice a4 st.fGone.length c4) (.slice a1 st.fSpace.fRefs.length c1)) (p42 : Apart (.slice a4 st.fGone.length c4) (.slice a2 st.fSpace.fLast.length c2)) :
    Calls Try.prog 77 #[.pointer (some ⟨b, 0, none⟩)] w fun e w' => e = .returned (.tuple #[]) ∧
      RowO encS 1 9 w' B B1 (.slice a0 st.fRows.length c0) (dropsRS (st.fRows, st.fSpace) st.fGone).1 ∧ RowO encI 1 3 w' B B1 (.slice a1 st.fSpace.fRefs.length c1) (dropsRS (st.fRows, st.fSpace) st.fGone).2.fRefs ∧ RowO encI 1 3 w' B B1 (.slice a2 st.fSpace.fLast.length c2) (dropsRS (st.fRows, st.fSpace) st.fGone).2.fLast ∧
      w'.heap[b]? = some (.cells #[.slice a0 st.fRows.length c0, .slice a1 st.fSpace.fRefs.length c1, .slice a2 st.fSpace.fLast.length c2, .int .i64 (st.fTxg + 1), .slice none 0 0, .int .i64 st.fKeep, .slice a6 st.fDead.length c6, .bool st.fSame] 68 (0, 0)) ∧ GrownAll [.slice a0 st.fRows.length c0, .slice a1 st.fSpace.fRefs.length c1, .slice a2 st.fSpace.fLast.length c2, selfB b] w w' := by
  have n0 : ∀ g, Value.rowBlock (.slice a0 st.fRows.length c0) = some g → g < b := fun g e => by have := (q0.lt g e).2.1; omega
  have n1 : ∀ g, Value.rowBlock (.slice a1 st.fSpace.fRefs.length c1) = some g → g < b := fun g e => by have := (q1.lt g e).2.1; omega
  have n2 : ∀ g, Value.rowBlock (.slice a2 st.fSpace.fLast.length c2) = some g → g < b := fun g e => by have := (q2.lt g e).2.1; omega
  have NS := Bx.mk (And.intro n0 (And.intro n1 n2))
  have HS := Bx.mk (And.intro h0 (And.intro h1 h2))
  have QS := Bx.mk (And.intro q0 (And.intro q1 (And.intro q2 q4)))
  have PS := Bx.mk (And.intro p01 (And.intro p02 (And.intro p12 (And.intro p40 (And.intro p41 p42)))))
  have HIN := Bx.mk (And.intro hin (And.intro how hmx))
  have HA := Bx.mk hA
  have hbw := blk_lt hA
  have k4 : w.cell? ⟨b, 4, none⟩ = some (.slice a4 st.fGone.length c4) := blk_cell hA 4
  clear n0 n1 n2 h0 h1 h2 q0 q1 q2 q4 p01 p02 p12 p40 p41 p42 hin how hmx hA
  go_enter Try.func77, Try.ntmps77
  go_wp2
  go_loopw [9] (fun i wr => ∃ k : Nat, k ≤ st.fGone.length ∧ i = .int .i64 k ∧ wr.heap[b]? = some (.cells #[.slice a0 st.fRows.length c0, .slice a1 st.fSpace.fRefs.length c1, .slice a2 st.fSpace.fLast.length c2, .int .i64 st.fTxg, .slice a4 st.fGone.length c4, .int .i64 st.fKeep, .slice a6 st.fDead.length c6, .bool st.fSame] 68 (0, 0)) ∧ GrownAll [.slice a0 st.fRows.length c0, .slice a1 st.fSpace.fRefs.length c1, .slice a2 st.fSpace.fLast.length c2] w wr ∧
      RowO encS 1 9 wr B B1 (.slice a0 st.fRows.length c0) (dropsRS (st.fRows, st.fSpace) (st.fGone.take k)).1 ∧ RowO encI 1 3 wr B B1 (.slice a1 st.fSpace.fRefs.length c1) (dropsRS (st.fRows, st.fSpace) (st.fGone.take k)).2.fRefs ∧ RowO encI 1 3 wr B B1 (.slice a2 st.fSpace.fLast.length c2) (dropsRS (st.fRows, st.fSpace) (st.fGone.take k)).2.fLast) (fun i _ => st.fGone.length - (intOf i).toNat)
  case atStart => exact ⟨0, Nat.zero_le _, rfl, HA.out, GrownAll.refl _ _, QS.out.1, QS.out.2.1, QS.out.2.2.1⟩
  case round =>
    obtain ⟨k, hk, rfl, hA, hG, m0, m1, m2⟩ := hrel
    clear k4
    by_cases hlt : k < st.fGone.length
    · obtain ⟨r4, _⟩ := (QS.out.2.2.2.all hG (all3 PS.out.2.2.2.1 PS.out.2.2.2.2.1 PS.out.2.2.2.2.2)).copy PtrD.cells_len
      obtain ⟨b4, off, p, hp, rfl, hbl, hrg⟩ := r4.at_ k hlt
      obtain ⟨d0, d1, d2, d3, d4⟩ := PtrD.at_ hrg
      have hsn : Bx (st.fGone.take (k + 1) = st.fGone.take k ++ [p]) := ⟨by obtain ⟨hj, he⟩ := List.getElem?_eq_some_iff.1 hp; rw [List.take_succ_eq_append_getElem hj, he]⟩
      have hps := drops_pos (rows := st.fRows) HS.out.2.1 HIN.out.1 HIN.out.2.1 hp
      have hpin := HIN.out.1 p (by obtain ⟨hj, he⟩ := List.getElem?_eq_some_iff.1 hp; rw [← he]; exact List.getElem_mem _)
      have hpm := HIN.out.2.2 p.fAt.toNat (by omega)
      obtain ⟨l0, l1, l2⟩ := dropsRS_len (st.fRows, st.fSpace) (st.fGone.take k)
      have hbr : b < wr.heap.size := blk_lt hA
      have hA' := blk_alloc hA (.cells #[.int .i64 p.fAt, .int .i64 p.fBirth, .int .i64 p.fSize, .int .i64 p.fSum, .int .i64 p.fLevel] 78)
      have hG' := hG.trans (GrownAll.alloc _ wr (.cells #[.int .i64 p.fAt, .int .i64 p.fBirth, .int .i64 p.fSize, .int .i64 p.fSum, .int .i64 p.fLevel] 78))
      have HC := Bx.mk (drop_n b a0 c0 a1 c1 a2 c2 _ _ _ _ p B B1 (wr.alloc (.cells #[.int .i64 p.fAt, .int .i64 p.fBirth, .int .i64 p.fSize, .int .i64 p.fSum, .int .i64 p.fLevel] 78)) l0 l1 l2 HS.out.1 HS.out.2.1 HS.out.2.2 hpin hps.1 (by omega) (blk_cell hA' 0) (blk_cell hA' 1) (blk_cell hA' 2) hbB (blk_lt hA')
        (m0.below ((Below.refl _ _).alloc (Nat.le_refl _) _) (Nat.le_refl _)) (m1.below ((Below.refl _ _).alloc (Nat.le_refl _) _) (Nat.le_refl _)) (m2.below ((Below.refl _ _).alloc (Nat.le_refl _) _) (Nat.le_refl _)) PS.out.1 PS.out.2.1 PS.out.2.2.1)
      have HA' := Bx.mk hA'
      have HG' := Bx.mk hG'
      clear hA hG hA' hG' m0 m1 m2 r4 hp hrg hps hpin hpm l0 l1 l2
      go_wp2_with fail
      refine HC.out.mono ?_
      rintro e w2 ⟨rfl, m0, m1, m2, hg⟩
      have M := Bx.mk (And.intro m0 (And.intro m1 m2))
      have HG2 := Bx.mk (HG'.out.trans hg)
      have HA2 := Bx.mk (blk_all HA'.out hg (all3 (fun e => Nat.lt_irrefl _ (NS.out.1 _ e)) (fun e => Nat.lt_irrefl _ (NS.out.2.1 _ e)) (fun e => Nat.lt_irrefl _ (NS.out.2.2 _ e))))
      clear m0 m1 m2 hg
      go_wp2
      go_roundw
      case rel =>
        refine ⟨k + 1, by omega, by go_num, HA2.out, HG2.out, ?_⟩
        rw [hsn.out, dropsRS_snoc]
        exact M.out
      case measure => simp [intOf]; omega
    · have hk' : k = st.fGone.length := by omega
      subst hk'
      rw [List.take_length] at m0 m1 m2
      have x3 : wr.cell? ⟨b, 3, none⟩ = some (.int .i64 st.fTxg) := blk_cell hA 3
      have x4 : wr.cell? ⟨b, 4, none⟩ = some (.slice a4 st.fGone.length c4) := blk_cell hA 4
      have x5 := blk_frozen hA 3
      have x6 := blk_frozen hA 4
      have hA9 := blk_set (blk_set hA (i := 4) (.slice none 0 0)) (i := 3) (.int .i64 (st.fTxg + 1))
      have M := Bx.mk (And.intro m0 (And.intro m1 m2))
      have HA9 := Bx.mk hA9
      have HG := Bx.mk (hG.mono (us := [.slice a0 st.fRows.length c0, .slice a1 st.fSpace.fRefs.length c1, .slice a2 st.fSpace.fLast.length c2, selfB b]) (by simp))
      clear hA hA9 m0 m1 m2 hG
      go_wp2
      go_end0
      refine ⟨rfl, (M.out.1.setO ?_ _).setO ?_ _, (M.out.2.1.setO ?_ _).setO ?_ _, (M.out.2.2.setO ?_ _).setO ?_ _, HA9.out, (HG.out.put (by simp) (selfB_row b) 4 _).put (by simp) (selfB_row b) 3 _⟩
      all_goals first
        | (intro g h; have h9 := NS.out.1 g h; simp; omega)
        | (intro g h; have h9 := NS.out.2.1 g h; simp; omega)
        | (intro g h; have h9 := NS.out.2.2 g h; simp; omega)
end Go.Proofs.Ytkgmilobmbeplaa
