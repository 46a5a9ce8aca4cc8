/- A reference dropped, by both sides. -/
import Derived.Test.YtkgmilobmbeplaaGive
namespace Go.Proofs.Ytkgmilobmbeplaa
open Go.RowKit

theorem RowO.cellI {e : TypeId} {w : World} {B B1 g n cap : Nat} {xs : List Int} (h : RowO encI 1 e w B B1 (.slice (some ⟨g, 0, Option.none⟩) n cap) xs) {a : Nat} {x : Int} (hx : xs[a]? = some x) : w.cell? ⟨g, a, Option.none⟩ = some (.int .i64 x) := by
  obtain ⟨hr, _⟩ := h.copy encI_len
  obtain ⟨b, off, y, hy, e, _, hrg⟩ := hr.at_ a (List.getElem?_eq_some_iff.1 hx).1
  simp only [Option.some.injEq, Addr.mk.injEq, and_true] at e
  obtain ⟨rfl, rfl⟩ := e
  obtain rfl := Option.some.inj (hy.symm.trans hx)
  have := hrg 0 _ rfl
  simpa using this
theorem RowO.cellS {e : TypeId} {w : World} {B B1 g n cap : Nat} {xs : List ByteArray} (h : RowO encS 1 e w B B1 (.slice (some ⟨g, 0, Option.none⟩) n cap) xs) {a : Nat} {x : ByteArray} (hx : xs[a]? = some x) : w.cell? ⟨g, a, Option.none⟩ = some (.string x) := by
  obtain ⟨hr, _⟩ := h.copy encS_len
  obtain ⟨b, off, y, hy, e, _, hrg⟩ := hr.at_ a (List.getElem?_eq_some_iff.1 hx).1
  simp only [Option.some.injEq, Addr.mk.injEq, and_true] at e
  obtain ⟨rfl, rfl⟩ := e
  obtain rfl := Option.some.inj (hy.symm.trans hx)
  have := hrg 0 _ rfl
  simpa using this
def dropRows (rows : List ByteArray) (s : SpaceD) (a : Nat) : List ByteArray := if s.fRefs.getD a 0 - 1 = 0 then rows.set a ByteArray.empty else rows
theorem dropRows_len (rows : List ByteArray) (s : SpaceD) (a : Nat) : (dropRows rows s a).length = rows.length := by unfold dropRows; split <;> simp
theorem give_get {s : SpaceD} {a : Nat} (ha : a < s.fRefs.length) : (s.give a).fRefs[a]? = some (s.fRefs.getD a 0 - 1) := by
  simp [SpaceD.give, ha]

set_option maxHeartbeats 1000000 in
set_option maxRecDepth 100000 in
theorem drop_any (b : Nat) (a0 : Option Addr) (c0 : Nat) (a1 : Option Addr) (c1 : Nat) (a2 : Option Addr) (c2 : Nat) (rows : List ByteArray) (s : SpaceD) (a B B1 : Nat) (w : World) (har : a < rows.length) (ha : a < s.fRefs.length) (ha1 : a < s.fLast.length)
    (hl0 : rows.length ≤ 1048576) (hl : s.fRefs.length ≤ 1048576) (hl1 : s.fLast.length ≤ 1048576) (hv0 : 1 ≤ s.fRefs.getD a 0) (hv1 : s.fRefs.getD a 0 ≤ 1000000)
    (k0 : w.cell? ⟨b, 0, none⟩ = some (.slice a0 rows.length c0)) (k1 : w.cell? ⟨b, 1, none⟩ = some (.slice a1 s.fRefs.length c1)) (k2 : w.cell? ⟨b, 2, none⟩ = some (.slice a2 s.fLast.length c2)) (hbB : B1 ≤ b) (hbw : b < w.heap.size)
    (q0 : RowO encS 1 9 w B B1 (.slice a0 rows.length c0) rows) (q1 : RowO encI 1 3 w B B1 (.slice a1 s.fRefs.length c1) s.fRefs) (q2 : RowO encI 1 3 w B B1 (.slice a2 s.fLast.length c2) s.fLast)
    (p01 : Apart (.slice a0 rows.length c0) (.slice a1 s.fRefs.length c1)) (p02 : Apart (.slice a0 rows.length c0) (.slice a2 s.fLast.length c2)) (p12 : Apart (.slice a1 s.fRefs.length c1) (.slice a2 s.fLast.length c2)) :
    Calls Try.prog 122 #[.pointer (some ⟨b, 0, none⟩), .int .i64 (a : Int)] w fun e w' => e = .returned (.tuple #[]) ∧
      RowO encS 1 9 w' B B1 (.slice a0 rows.length c0) (dropRows rows s a) ∧ RowO encI 1 3 w' B B1 (.slice a1 s.fRefs.length c1) (s.give a).fRefs ∧ RowO encI 1 3 w' B B1 (.slice a2 s.fLast.length c2) (s.give a).fLast ∧
      GrownAll [.slice a0 rows.length c0, .slice a1 s.fRefs.length c1, .slice a2 s.fLast.length c2] w w' := by
  have n0 : Value.rowBlock (.slice a0 rows.length c0) ≠ some b := fun e => by have := (q0.lt b e).2.1; omega
  have n1 : Value.rowBlock (.slice a1 s.fRefs.length c1) ≠ some b := fun e => by have := (q1.lt b e).2.1; omega
  have n2 : Value.rowBlock (.slice a2 s.fLast.length c2) ≠ some b := fun e => by have := (q2.lt b e).2.1; omega
  obtain ⟨g0, rfl, _, hg0, _, hrb0, _⟩ := q0.open1 (by omega)
  obtain ⟨g1, rfl, _, hg1, _, _, _⟩ := q1.open1 (by omega)
  have j0 := q1.cellI (a := a) (x := s.fRefs.getD a 0) (by simp [List.getD, ha])
  have hgv := Bx.mk (give_get ha)
  have hdr : Bx (dropRows rows s a = if s.fRefs.getD a 0 - 1 = 0 then rows.set a ByteArray.empty else rows) := ⟨rfl⟩
  have HC := Bx.mk (give_any b 1 _ c1 a2 c2 s a B B1 w ha ha1 hl hl1 (by omega) hv1 k1 k2 n1 q1 q2 p12)
  generalize s.fRefs.getD a 0 = r at *
  have hcmp0 : (r == 0) = false := by simp; omega
  have Q0 := Bx.mk q0
  have PS := Bx.mk (And.intro p01 p02)
  have NS := Bx.mk (And.intro n0 (And.intro n1 n2))
  have HRB := Bx.mk hrb0
  clear q0 q1 q2 p01 p02 p12 n0 n1 n2 hrb0
  go_enter Try.func122, Try.ntmps122
  go_wp2_with fail
  refine HC.out.mono ?_
  rintro e w1 ⟨rfl, m1, m2, hg⟩
  have hblk := hg.block b hbw (all2 NS.out.2.1 NS.out.2.2)
  have k0' : w1.cell? ⟨b, 0, none⟩ = some (.slice (some ⟨g0, 0, none⟩) rows.length c0) := (World.cell?_of_block hblk).trans k0
  have k1' : w1.cell? ⟨b, 1, none⟩ = some (.slice (some ⟨g1, 0, none⟩) s.fRefs.length c1) := (World.cell?_of_block hblk).trans k1
  have m0 := Q0.out.all hg (all2 PS.out.1 PS.out.2)
  have j1 := m1.cellI hgv.out
  obtain ⟨g0', e0, _, _, hs0, _, o0⟩ := m0.open1 (by omega)
  simp only [Option.some.injEq, Addr.mk.injEq, and_true] at e0
  subst e0
  have j2 := m0.cellS (a := a) (x := rows[a]) (List.getElem?_eq_getElem har)
  have j3 := o0.frozenAt a
  have HG := Bx.mk (hg.mono (us := [.slice (some ⟨g0, 0, none⟩) rows.length c0, .slice (some ⟨g1, 0, none⟩) s.fRefs.length c1, .slice a2 s.fLast.length c2]) (by simp))
  have M := Bx.mk (And.intro m0 (And.intro m1 m2))
  have O0 := Bx.mk o0
  clear hg m0 m1 m2 o0 hblk k0 k1 k2 j0
  by_cases hc : r - 1 = 0
  · have hcmp : (r - 1 == 0) = true := by simp [hc]
    have HZ := Bx.mk hc
    clear hc
    go_wp2
    go_end0
    rw [hdr.out, if_pos HZ.out]
    refine ⟨rfl, RowO.putS O0.out hg0 a ByteArray.empty, M.out.2.1.setO ?_ _, M.out.2.2.setO ?_ _, HG.out.put (by simp) HRB.out a _⟩
    · intro g h
      rcases PS.out.1 with h1 | h1
      · rw [HRB.out] at h1; cases h1
      · rw [HRB.out, h] at h1; exact fun e => h1 (by rw [e])
    · intro g h
      rcases PS.out.2 with h1 | h1
      · rw [HRB.out] at h1; cases h1
      · rw [HRB.out, h] at h1; exact fun e => h1 (by rw [e])
  · have hcmp : (r - 1 == 0) = false := by simp [hc]
    have HZ := Bx.mk hc
    clear hc
    go_wp2
    go_end0
    rw [hdr.out, if_neg HZ.out]
    exact ⟨rfl, M.out.1, M.out.2.1, M.out.2.2, HG.out⟩

set_option maxHeartbeats 1000000 in
set_option maxRecDepth 100000 in
theorem l7Drop_any (a0 : Option Addr) (c0 : Nat) (a1 : Option Addr) (c1 : Nat) (a2 : Option Addr) (c2 : Nat) (tx : Int) (a4 : Option Addr) (l4 c4 : Nat) (kp : Int) (a6 : Option Addr) (l6 c6 : Nat) (sm : Bool) (rows : List ByteArray) (s : SpaceD) (a B B1 : Nat) (w : World) (har : a < rows.length) (ha : a < s.fRefs.length) (ha1 : a < s.fLast.length)
    (hl0 : rows.length ≤ 1048576) (hl : s.fRefs.length ≤ 1048576) (hl1 : s.fLast.length ≤ 1048576) (hv0 : 1 ≤ s.fRefs.getD a 0) (hv1 : s.fRefs.getD a 0 ≤ 1000000)
    (q0 : RowO encS 1 9 w B B1 (.slice a0 rows.length c0) rows) (q1 : RowO encI 1 3 w B B1 (.slice a1 s.fRefs.length c1) s.fRefs) (q2 : RowO encI 1 3 w B B1 (.slice a2 s.fLast.length c2) s.fLast)
    (p01 : Apart (.slice a0 rows.length c0) (.slice a1 s.fRefs.length c1)) (p02 : Apart (.slice a0 rows.length c0) (.slice a2 s.fLast.length c2)) (p12 : Apart (.slice a1 s.fRefs.length c1) (.slice a2 s.fLast.length c2)) :
    Calls Try.prog 115 #[.agg #[.slice a0 rows.length c0, .slice a1 s.fRefs.length c1, .slice a2 s.fLast.length c2, .int .i64 tx, .slice a4 l4 c4, .int .i64 kp, .slice a6 l6 c6, .bool sm], .int .i64 (a : Int)] w fun e w' => e = .returned (.agg #[.slice a0 rows.length c0, .slice a1 s.fRefs.length c1, .slice a2 s.fLast.length c2, .int .i64 tx, .slice a4 l4 c4, .int .i64 kp, .slice a6 l6 c6, .bool sm]) ∧
      RowO encS 1 9 w' B B1 (.slice a0 rows.length c0) (dropRows rows s a) ∧ RowO encI 1 3 w' B B1 (.slice a1 s.fRefs.length c1) (s.give a).fRefs ∧ RowO encI 1 3 w' B B1 (.slice a2 s.fLast.length c2) (s.give a).fLast ∧
      GrownAll [.slice a0 rows.length c0, .slice a1 s.fRefs.length c1, .slice a2 s.fLast.length c2] w w' := by
  have n0 : ∀ g, Value.rowBlock (.slice a0 rows.length c0) = some g → g < w.heap.size := fun g e => (q0.lt g e).2.2
  have n1 : ∀ g, Value.rowBlock (.slice a1 s.fRefs.length c1) = some g → g < w.heap.size := fun g e => (q1.lt g e).2.2
  have n2 : ∀ g, Value.rowBlock (.slice a2 s.fLast.length c2) = some g → g < w.heap.size := fun g e => (q2.lt g e).2.2
  obtain ⟨g0, rfl, _, hg0, hgw0, hrb0, _⟩ := q0.open1 (by omega)
  obtain ⟨g1, rfl, _, hg1, _, _, _⟩ := q1.open1 (by omega)
  have hgv := Bx.mk (give_get ha)
  have hdr : Bx (dropRows rows s a = if s.fRefs.getD a 0 - 1 = 0 then rows.set a ByteArray.empty else rows) := ⟨rfl⟩
  have hX : ((w.alloc (.cells #[.slice (some ⟨g0, 0, none⟩) rows.length c0, .slice (some ⟨g1, 0, none⟩) s.fRefs.length c1, .slice a2 s.fLast.length c2, .int .i64 tx, .slice a4 l4 c4, .int .i64 kp, .slice a6 l6 c6, .bool sm] 68)).alloc (.cells #[.slice none 0 0, .slice none 0 0, .slice none 0 0, .int .i64 0, .slice none 0 0, .int .i64 0, .slice none 0 0, .bool false] 68)).heap[w.heap.size]? = some (.cells #[.slice (some ⟨g0, 0, none⟩) rows.length c0, .slice (some ⟨g1, 0, none⟩) s.fRefs.length c1, .slice a2 s.fLast.length c2, .int .i64 tx, .slice a4 l4 c4, .int .i64 kp, .slice a6 l6 c6, .bool sm] 68 (0, 0)) := blk_alloc (blk_new w _ _ rfl) _
  have hR : ((w.alloc (.cells #[.slice (some ⟨g0, 0, none⟩) rows.length c0, .slice (some ⟨g1, 0, none⟩) s.fRefs.length c1, .slice a2 s.fLast.length c2, .int .i64 tx, .slice a4 l4 c4, .int .i64 kp, .slice a6 l6 c6, .bool sm] 68)).alloc (.cells #[.slice none 0 0, .slice none 0 0, .slice none 0 0, .int .i64 0, .slice none 0 0, .int .i64 0, .slice none 0 0, .bool false] 68)).heap[w.heap.size + 1]? = some (.cells #[.slice none 0 0, .slice none 0 0, .slice none 0 0, .int .i64 0, .slice none 0 0, .int .i64 0, .slice none 0 0, .bool false] 68 (0, 0)) := blk_new _ _ (w.heap.size + 1) (by simp)
  have hG : GrownAll [.slice (some ⟨g0, 0, none⟩) rows.length c0, .slice (some ⟨g1, 0, none⟩) s.fRefs.length c1, .slice a2 s.fLast.length c2] w ((w.alloc (.cells #[.slice (some ⟨g0, 0, none⟩) rows.length c0, .slice (some ⟨g1, 0, none⟩) s.fRefs.length c1, .slice a2 s.fLast.length c2, .int .i64 tx, .slice a4 l4 c4, .int .i64 kp, .slice a6 l6 c6, .bool sm] 68)).alloc (.cells #[.slice none 0 0, .slice none 0 0, .slice none 0 0, .int .i64 0, .slice none 0 0, .int .i64 0, .slice none 0 0, .bool false] 68)) := (GrownAll.alloc _ _ _).trans (GrownAll.alloc _ _ _)
  have hb : Below w.heap.size w ((w.alloc (.cells #[.slice (some ⟨g0, 0, none⟩) rows.length c0, .slice (some ⟨g1, 0, none⟩) s.fRefs.length c1, .slice a2 s.fLast.length c2, .int .i64 tx, .slice a4 l4 c4, .int .i64 kp, .slice a6 l6 c6, .bool sm] 68)).alloc (.cells #[.slice none 0 0, .slice none 0 0, .slice none 0 0, .int .i64 0, .slice none 0 0, .int .i64 0, .slice none 0 0, .bool false] 68)) := ((Below.refl _ _).alloc (Nat.le_refl _) _).alloc (by simp) _
  have HC := Bx.mk (l5Give_any _ c1 a2 c2 s a B B1 ((w.alloc (.cells #[.slice (some ⟨g0, 0, none⟩) rows.length c0, .slice (some ⟨g1, 0, none⟩) s.fRefs.length c1, .slice a2 s.fLast.length c2, .int .i64 tx, .slice a4 l4 c4, .int .i64 kp, .slice a6 l6 c6, .bool sm] 68)).alloc (.cells #[.slice none 0 0, .slice none 0 0, .slice none 0 0, .int .i64 0, .slice none 0 0, .int .i64 0, .slice none 0 0, .bool false] 68)) ha ha1 hl hl1 (by omega) hv1 (q1.below hb (Nat.le_refl _)) (q2.below hb (Nat.le_refl _)) p12)
  generalize s.fRefs.getD a 0 = r at *
  have Q0 := Bx.mk (q0.below hb (Nat.le_refl _))
  have PS := Bx.mk (And.intro p01 p02)
  have NS := Bx.mk (And.intro n0 (And.intro n1 n2))
  have HRB := Bx.mk hrb0
  have HX := Bx.mk hX
  have HR := Bx.mk hR
  have HG0 := Bx.mk hG
  clear q0 q1 q2 p01 p02 p12 n0 n1 n2 hrb0 hX hR hG hb
  go_enter Try.func115, Try.ntmps115
  go_wp2_with fail
  refine HC.out.mono ?_
  rintro e w1 ⟨rfl, m1, m2, hg⟩
  have hX1 := blk_all HX.out hg (all2 (fun e => Nat.lt_irrefl _ (NS.out.2.1 _ e)) (fun e => Nat.lt_irrefl _ (NS.out.2.2 _ e)))
  have hR1 := blk_all HR.out hg (all2 (fun e => absurd (NS.out.2.1 _ e) (by omega)) (fun e => absurd (NS.out.2.2 _ e) (by omega)))
  have m0 := Q0.out.all hg (all2 PS.out.1 PS.out.2)
  have j1 := m1.cellI hgv.out
  obtain ⟨g0', e0, _, _, hs0, _, o0⟩ := m0.open1 (by omega)
  simp only [Option.some.injEq, Addr.mk.injEq, and_true] at e0
  subst e0
  have j2 := m0.cellS (a := a) (x := rows[a]) (List.getElem?_eq_getElem har)
  have j3 := o0.frozenAt a
  have HG := Bx.mk (HG0.out.trans (hg.mono (us := [.slice (some ⟨g0, 0, none⟩) rows.length c0, .slice (some ⟨g1, 0, none⟩) s.fRefs.length c1, .slice a2 s.fLast.length c2]) (by simp)))
  have M := Bx.mk (And.intro m0 (And.intro m1 m2))
  have O0 := Bx.mk o0
  have x0 : w1.cell? ⟨w.heap.size, 0, none⟩ = some (.slice (some ⟨g0, 0, none⟩) rows.length c0) := blk_cell hX1 0
  have x1 : w1.cell? ⟨w.heap.size, 1, none⟩ = some (.slice (some ⟨g1, 0, none⟩) s.fRefs.length c1) := blk_cell hX1 1
  have x2 : w1.cell? ⟨w.heap.size, 2, none⟩ = some (.slice a2 s.fLast.length c2) := blk_cell hX1 2
  have x3 : w1.cell? ⟨w.heap.size, 3, none⟩ = some (.int .i64 tx) := blk_cell hX1 3
  have x4 : w1.cell? ⟨w.heap.size, 4, none⟩ = some (.slice a4 l4 c4) := blk_cell hX1 4
  have x5 : w1.cell? ⟨w.heap.size, 5, none⟩ = some (.int .i64 kp) := blk_cell hX1 5
  have x6 : w1.cell? ⟨w.heap.size, 6, none⟩ = some (.slice a6 l6 c6) := blk_cell hX1 6
  have x7 : w1.cell? ⟨w.heap.size, 7, none⟩ = some (.bool sm) := blk_cell hX1 7
  have xf1 := blk_frozen hX1 1
  have xf2 := blk_frozen hX1 2
  have y0 : w1.cell? ⟨w.heap.size + 1, 0, none⟩ = some (.slice none 0 0) := blk_cell hR1 0
  have yf0 := blk_frozen hR1 0
  have y1 : w1.cell? ⟨w.heap.size + 1, 1, none⟩ = some (.slice none 0 0) := blk_cell hR1 1
  have yf1 := blk_frozen hR1 1
  have y2 : w1.cell? ⟨w.heap.size + 1, 2, none⟩ = some (.slice none 0 0) := blk_cell hR1 2
  have yf2 := blk_frozen hR1 2
  have y3 : w1.cell? ⟨w.heap.size + 1, 3, none⟩ = some (.int .i64 0) := blk_cell hR1 3
  have yf3 := blk_frozen hR1 3
  have y4 : w1.cell? ⟨w.heap.size + 1, 4, none⟩ = some (.slice none 0 0) := blk_cell hR1 4
  have yf4 := blk_frozen hR1 4
  have y5 : w1.cell? ⟨w.heap.size + 1, 5, none⟩ = some (.int .i64 0) := blk_cell hR1 5
  have yf5 := blk_frozen hR1 5
  have y6 : w1.cell? ⟨w.heap.size + 1, 6, none⟩ = some (.slice none 0 0) := blk_cell hR1 6
  have yf6 := blk_frozen hR1 6
  have y7 : w1.cell? ⟨w.heap.size + 1, 7, none⟩ = some (.bool false) := blk_cell hR1 7
  have yf7 := blk_frozen hR1 7
  have e0 : w.heap.size ≠ g0 := by omega
  have e1 : w.heap.size + 1 ≠ g0 := by omega
  clear hg m0 m1 m2 o0 hX1 hR1
  by_cases hc : r - 1 = 0
  · have hcmp : (r - 1 == 0) = true := by simp [hc]
    have HZ := Bx.mk hc
    clear hc
    have O2 := Bx.mk ((O0.out.kept (grown_set w1 ⟨w.heap.size, 1, none⟩ (.slice (some ⟨g1, 0, none⟩) s.fRefs.length c1)) (.inr (by simp [Value.ownBlock]; omega))).kept (grown_set _ ⟨w.heap.size, 2, none⟩ (.slice a2 s.fLast.length c2)) (.inr (by simp [Value.ownBlock]; omega)))
    go_wp2
    refine bodyPost_ret (v := .agg #[.slice (some ⟨g0, 0, none⟩) rows.length c0, .slice (some ⟨g1, 0, none⟩) s.fRefs.length c1, .slice a2 s.fLast.length c2, .int .i64 tx, .slice a4 l4 c4, .int .i64 kp, .slice a6 l6 c6, .bool sm]) (by simp [results, Try.results115, go_sem, y0, y1, y2, y3, y4, y5, y6, y7]) rfl ?_
    rw [hdr.out, if_pos HZ.out]
    refine ⟨rfl, (((((((((RowO.putS O2.out hg0 a ByteArray.empty).setO ?_ _).setO ?_ _).setO ?_ _).setO ?_ _).setO ?_ _).setO ?_ _).setO ?_ _).setO ?_ _), (((((((((((M.out.2.1.setO ?_ _).setO ?_ _).setO ?_ _).setO ?_ _).setO ?_ _).setO ?_ _).setO ?_ _).setO ?_ _).setO ?_ _).setO ?_ _).setO ?_ _), (((((((((((M.out.2.2.setO ?_ _).setO ?_ _).setO ?_ _).setO ?_ _).setO ?_ _).setO ?_ _).setO ?_ _).setO ?_ _).setO ?_ _).setO ?_ _).setO ?_ _), (((((((((((HG.out.setNew ?_ _).setNew ?_ _).put (by simp) HRB.out a _).setNew ?_ _).setNew ?_ _).setNew ?_ _).setNew ?_ _).setNew ?_ _).setNew ?_ _).setNew ?_ _).setNew ?_ _)⟩
    all_goals first
      | (simp; done)
      | (intro g h; have h9 := NS.out.1 g h; simp; omega)
      | (intro g h; have h9 := NS.out.2.1 g h; simp; omega)
      | (intro g h; have h9 := NS.out.2.2 g h; simp; omega)
      | (intro g h; rcases PS.out.1 with h1 | h1; (rw [HRB.out] at h1; cases h1); (rw [HRB.out, h] at h1; exact fun e => h1 (by rw [e])))
      | (intro g h; rcases PS.out.2 with h1 | h1; (rw [HRB.out] at h1; cases h1); (rw [HRB.out, h] at h1; exact fun e => h1 (by rw [e])))
  · have hcmp : (r - 1 == 0) = false := by simp [hc]
    have HZ := Bx.mk hc
    clear hc
    go_wp2
    refine bodyPost_ret (v := .agg #[.slice (some ⟨g0, 0, none⟩) rows.length c0, .slice (some ⟨g1, 0, none⟩) s.fRefs.length c1, .slice a2 s.fLast.length c2, .int .i64 tx, .slice a4 l4 c4, .int .i64 kp, .slice a6 l6 c6, .bool sm]) (by simp [results, Try.results115, go_sem, y0, y1, y2, y3, y4, y5, y6, y7]) rfl ?_
    rw [hdr.out, if_neg HZ.out]
    refine ⟨rfl, ((((((((((M.out.1.setO ?_ _).setO ?_ _).setO ?_ _).setO ?_ _).setO ?_ _).setO ?_ _).setO ?_ _).setO ?_ _).setO ?_ _).setO ?_ _), ((((((((((M.out.2.1.setO ?_ _).setO ?_ _).setO ?_ _).setO ?_ _).setO ?_ _).setO ?_ _).setO ?_ _).setO ?_ _).setO ?_ _).setO ?_ _), ((((((((((M.out.2.2.setO ?_ _).setO ?_ _).setO ?_ _).setO ?_ _).setO ?_ _).setO ?_ _).setO ?_ _).setO ?_ _).setO ?_ _).setO ?_ _), ((((((((((HG.out.setNew ?_ _).setNew ?_ _).setNew ?_ _).setNew ?_ _).setNew ?_ _).setNew ?_ _).setNew ?_ _).setNew ?_ _).setNew ?_ _).setNew ?_ _)⟩
    all_goals first
      | (simp; done)
      | (intro g h; have h9 := NS.out.1 g h; simp; omega)
      | (intro g h; have h9 := NS.out.2.1 g h; simp; omega)
      | (intro g h; have h9 := NS.out.2.2 g h; simp; omega)
      | (intro g h; rcases PS.out.1 with h1 | h1; (rw [HRB.out] at h1; cases h1); (rw [HRB.out, h] at h1; exact fun e => h1 (by rw [e])))
      | (intro g h; rcases PS.out.2 with h1 | h1; (rw [HRB.out] at h1; cases h1); (rw [HRB.out, h] at h1; exact fun e => h1 (by rw [e])))
end Go.Proofs.Ytkgmilobmbeplaa
