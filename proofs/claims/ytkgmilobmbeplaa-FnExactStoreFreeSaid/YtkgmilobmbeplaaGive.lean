/- Rows written in place. -/
import Derived.Test.YtkgmilobmbeplaaStoreN
import Derived.BigRegion
namespace Go.Proofs.Ytkgmilobmbeplaa
open Go.RowKit

theorem flat_setI (xs : List Int) (a : Nat) (r : Int) : (xs.flatMap encI).set a (.int .i64 r) = (xs.set a r).flatMap encI := by
  have h : ∀ l : List Int, l.flatMap encI = l.map (fun n => Value.int .i64 n) := fun l => by
    induction l with
    | nil => rfl
    | cons x r ih => rw [List.flatMap_cons, ih]; rfl
  rw [h, h, List.map_set]
theorem flat_setS (xs : List ByteArray) (a : Nat) (r : ByteArray) : (xs.flatMap encS).set a (.string r) = (xs.set a r).flatMap encS := by
  have h : ∀ l : List ByteArray, l.flatMap encS = l.map (fun n => Value.string n) := fun l => by
    induction l with
    | nil => rfl
    | cons x r ih => rw [List.flatMap_cons, ih]; rfl
  rw [h, h, List.map_set]
theorem RowO.open1 {α : Type} {enc : α → List Value} {size : Nat} {e : TypeId} {w : World} {B B1 : Nat} {ao : Option Addr} {cap : Nat} {xs : List α} (h : RowO enc size e w B B1 (.slice ao xs.length cap) xs) (hpos : 0 < xs.length) :
    ∃ g, ao = some ⟨g, 0, Option.none⟩ ∧ B ≤ g ∧ g < B1 ∧ g < w.heap.size ∧ Value.rowBlock (.slice ao xs.length cap) = some g ∧ w.ownsRow B e size (.slice (some ⟨g, 0, Option.none⟩) xs.length cap) xs.length (xs.flatMap enc) := by
  obtain ⟨ao', cap', hv, hc, hg⟩ := h
  simp only [Value.slice.injEq, true_and] at hv
  obtain ⟨rfl, rfl⟩ := hv
  rcases hc with ⟨_, hx⟩ | ho
  · rw [hx] at hpos; exact absurd hpos (Nat.lt_irrefl _)
  · obtain ⟨ao', cap', hv, hle, _, hb⟩ := owns_slice ho
    simp only [Value.slice.injEq, true_and] at hv
    obtain ⟨rfl, rfl⟩ := hv
    obtain ⟨g, rfl, h1, h2⟩ := hb hpos
    have hr : Value.rowBlock (.slice (some ⟨g, 0, Option.none⟩) xs.length cap) = some g := by rw [rowBlock_pos (by omega)]; rfl
    exact ⟨g, rfl, h1, hg g hr, h2, hr, ho⟩
theorem RowO.putI {e : TypeId} {w : World} {B B1 g cap : Nat} {xs : List Int} (ho : w.ownsRow B e 1 (.slice (some ⟨g, 0, Option.none⟩) xs.length cap) xs.length (xs.flatMap encI)) (hg : g < B1) (a : Nat) (r : Int) :
    RowO encI 1 e (w.setCell ⟨g, a, Option.none⟩ (.int .i64 r)) B B1 (.slice (some ⟨g, 0, Option.none⟩) xs.length cap) (xs.set a r) :=
  ⟨_, cap, by rw [List.length_set], .inr (by rw [List.length_set, ← flat_setI]; exact (ho.stored a _).1), fun g' h => by
    have := rowBlock_own h
    simp only [Value.ownBlock, Option.some.injEq] at this
    omega⟩
theorem RowO.putS {e : TypeId} {w : World} {B B1 g cap : Nat} {xs : List ByteArray} (ho : w.ownsRow B e 1 (.slice (some ⟨g, 0, Option.none⟩) xs.length cap) xs.length (xs.flatMap encS)) (hg : g < B1) (a : Nat) (r : ByteArray) :
    RowO encS 1 e (w.setCell ⟨g, a, Option.none⟩ (.string r)) B B1 (.slice (some ⟨g, 0, Option.none⟩) xs.length cap) (xs.set a r) :=
  ⟨_, cap, by rw [List.length_set], .inr (by rw [List.length_set, ← flat_setS]; exact (ho.stored a _).1), fun g' h => by
    have := rowBlock_own h
    simp only [Value.ownBlock, Option.some.injEq] at this
    omega⟩
theorem GrownAll.put {vs : List Value} {w w' : World} (h : GrownAll vs w w') {u : Value} {g : Nat} (hu : u ∈ vs) (hg : Value.rowBlock u = some g) (a : Nat) (x : Value) : GrownAll vs w (w'.setCell ⟨g, a, none⟩ x) :=
  ⟨h.os, h.tape, h.output, by rw [sz_set]; exact h.size, fun k hk hne => ((Below.heap_setCell w' ⟨g, a, none⟩ x k (fun e => hne u hu (by rw [hg, e]))).trans (h.block k hk hne))⟩

theorem grown_set (w : World) (p : Addr) (u : Value) : w.grownBy (w.setCell p u) (some p.block) :=
  ⟨rfl, rfl, rfl, by rw [sz_set]; exact Nat.le_refl _, fun k hk hne => Below.heap_setCell w p u k (fun e => hne (by rw [e]))⟩
theorem RowO.setO {α : Type} {enc : α → List Value} {size : Nat} {e : TypeId} {w : World} {B B1 : Nat} {v : Value} {xs : List α} (h : RowO enc size e w B B1 v xs) {p : Addr} (hne : ∀ g, Value.rowBlock v = some g → g ≠ p.block) (u : Value) : RowO enc size e (w.setCell p u) B B1 v xs :=
  h.grown (grown_set w p u) (by
    cases hr : Value.rowBlock v with
    | none => exact .inl rfl
    | some g => exact .inr (fun e => hne g hr (Option.some.inj e)))
theorem GrownAll.setNew {vs : List Value} {w w' : World} (h : GrownAll vs w w') {p : Addr} (hp : w.heap.size ≤ p.block) (u : Value) : GrownAll vs w (w'.setCell p u) :=
  ⟨h.os, h.tape, h.output, by rw [sz_set]; exact h.size, fun k hk hne => (Below.heap_setCell w' p u k (by omega)).trans (h.block k hk hne)⟩

/-! ### What the functions reckon -/
def SpaceD.give (s : SpaceD) (a : Nat) : SpaceD := { fRefs := s.fRefs.set a (s.fRefs.getD a 0 - 1), fLast := if s.fRefs.getD a 0 - 1 = 0 then s.fLast.set a 0 else s.fLast }
theorem SpaceD.give_refs (s : SpaceD) (a : Nat) : (s.give a).fRefs.length = s.fRefs.length := by simp [SpaceD.give]
theorem SpaceD.give_last (s : SpaceD) (a : Nat) : (s.give a).fLast.length = s.fLast.length := by unfold SpaceD.give; dsimp only; split <;> simp
def StoreD.drop (st : StoreD) (a : Nat) : StoreD := { st with fSpace := st.fSpace.give a, fRows := if st.fSpace.fRefs.getD a 0 - 1 = 0 then st.fRows.set a ByteArray.empty else st.fRows }
def StoreD.drops (st : StoreD) (ps : List PtrD) : StoreD := ps.foldl (fun st p => st.drop p.fAt.toNat) st
def StoreD.next (st : StoreD) : StoreD := { st.drops st.fGone with fGone := [], fTxg := st.fTxg + 1 }

set_option maxHeartbeats 1000000 in
set_option maxRecDepth 100000 in
theorem l5Give_any (a0 : Option Addr) (c0 : Nat) (a1 : Option Addr) (c1 : Nat) (s : SpaceD) (a B B1 : Nat) (w : World) (ha : a < s.fRefs.length) (ha1 : a < s.fLast.length) (hl : s.fRefs.length ≤ 1048576) (hl1 : s.fLast.length ≤ 1048576)
    (hv0 : -1000000 ≤ s.fRefs.getD a 0) (hv1 : s.fRefs.getD a 0 ≤ 1000000)
    (r0 : RowO encI 1 3 w B B1 (.slice a0 s.fRefs.length c0) s.fRefs) (r1 : RowO encI 1 3 w B B1 (.slice a1 s.fLast.length c1) s.fLast) (hap : Apart (.slice a0 s.fRefs.length c0) (.slice a1 s.fLast.length c1)) :
    Calls Try.prog 134 #[.agg #[.slice a0 s.fRefs.length c0, .slice a1 s.fLast.length c1], .int .i64 (a : Int)] w fun e w' => e = .returned (.agg #[.slice a0 s.fRefs.length c0, .slice a1 s.fLast.length c1]) ∧
      RowO encI 1 3 w' B B1 (.slice a0 s.fRefs.length c0) (s.give a).fRefs ∧ RowO encI 1 3 w' B B1 (.slice a1 s.fLast.length c1) (s.give a).fLast ∧ GrownAll [.slice a0 s.fRefs.length c0, .slice a1 s.fLast.length c1] w w' := by
  obtain ⟨g0, rfl, hB0, hg0, hs0, hrb0, o0⟩ := r0.open1 (by omega)
  obtain ⟨g1, rfl, hB1, hg1, hs1, hrb1, o1⟩ := r1.open1 (by omega)
  have hne : g0 ≠ g1 := by
    rcases hap with h | h
    · rw [hrb0] at h; cases h
    · rw [hrb0, hrb1] at h; exact fun e => h (by rw [e])
  have hx : s.fRefs[a]? = some (s.fRefs.getD a 0) := by rw [List.getElem?_eq_getElem ha]; simp [List.getD, ha]
  have hgive : Bx (s.give a = { fRefs := s.fRefs.set a (s.fRefs.getD a 0 - 1), fLast := if s.fRefs.getD a 0 - 1 = 0 then s.fLast.set a 0 else s.fLast }) := ⟨rfl⟩
  generalize s.fRefs.getD a 0 = r at *
  have k0 : w.cell? ⟨g0, a, none⟩ = some (.int .i64 r) := by rw [o0.cellAt a (by omega)]; have := flat_get encI 1 encI_len s.fRefs a ha 0 (.int .i64 r) (by rw [List.getElem?_eq_getElem ha] at hx; rw [Option.some.inj hx]; rfl); simpa using this
  have k1 := o0.frozenAt a
  have k2 : w.cell? ⟨g1, a, none⟩ = some (.int .i64 (s.fLast.getD a 0)) := by rw [o1.cellAt a (by omega)]; have := flat_get encI 1 encI_len s.fLast a ha1 0 (.int .i64 (s.fLast.getD a 0)) (by simp [List.getD, ha1, encI]); simpa using this
  have k3 := o1.frozenAt a
  have O0 := Bx.mk o0
  have O1 := Bx.mk o1
  have HAP := Bx.mk hap
  have HR := Bx.mk (And.intro hrb0 hrb1)
  clear r0 r1 o0 o1 hap hx hrb0 hrb1
  have hX : (((w.alloc (.cells #[.slice (some ⟨g0, 0, none⟩) s.fRefs.length c0, .slice (some ⟨g1, 0, none⟩) s.fLast.length c1] 65)).alloc (.cells #[.slice none 0 0, .slice none 0 0] 65))).heap[w.heap.size]? = some (.cells #[.slice (some ⟨g0, 0, none⟩) s.fRefs.length c0, .slice (some ⟨g1, 0, none⟩) s.fLast.length c1] 65 (0, 0)) := blk_alloc (blk_new w _ _ rfl) _
  have hR : (((w.alloc (.cells #[.slice (some ⟨g0, 0, none⟩) s.fRefs.length c0, .slice (some ⟨g1, 0, none⟩) s.fLast.length c1] 65)).alloc (.cells #[.slice none 0 0, .slice none 0 0] 65))).heap[w.heap.size + 1]? = some (.cells #[.slice none 0 0, .slice none 0 0] 65 (0, 0)) := blk_new _ _ (w.heap.size + 1) (by simp)
  have hG : GrownAll [.slice (some ⟨g0, 0, none⟩) s.fRefs.length c0, .slice (some ⟨g1, 0, none⟩) s.fLast.length c1] w ((w.alloc (.cells #[.slice (some ⟨g0, 0, none⟩) s.fRefs.length c0, .slice (some ⟨g1, 0, none⟩) s.fLast.length c1] 65)).alloc (.cells #[.slice none 0 0, .slice none 0 0] 65)) := (GrownAll.alloc _ _ _).trans (GrownAll.alloc _ _ _)
  have P0 := Bx.mk ((O0.out.alloc (.cells #[.slice (some ⟨g0, 0, none⟩) s.fRefs.length c0, .slice (some ⟨g1, 0, none⟩) s.fLast.length c1] 65)).alloc (.cells #[.slice none 0 0, .slice none 0 0] 65))
  have P1 := Bx.mk ((O1.out.alloc (.cells #[.slice (some ⟨g0, 0, none⟩) s.fRefs.length c0, .slice (some ⟨g1, 0, none⟩) s.fLast.length c1] 65)).alloc (.cells #[.slice none 0 0, .slice none 0 0] 65))
  have e0 : w.heap.size ≠ g0 := by omega
  have e1 : w.heap.size ≠ g1 := by omega
  have e2 : w.heap.size + 1 ≠ g0 := by omega
  have e3 : w.heap.size + 1 ≠ g1 := by omega
  go_enter Try.func134, Try.ntmps134
  go_wp2_with fail
  have j0 : (((w.alloc (.cells #[.slice (some ⟨g0, 0, none⟩) s.fRefs.length c0, .slice (some ⟨g1, 0, none⟩) s.fLast.length c1] 65)).alloc (.cells #[.slice none 0 0, .slice none 0 0] 65))).cell? ⟨g0, a, none⟩ = some (.int .i64 r) := by rw [P0.out.cellAt a (by omega), ← O0.out.cellAt a (by omega)]; exact k0
  have j1 := P0.out.frozenAt a
  have x0 : (((w.alloc (.cells #[.slice (some ⟨g0, 0, none⟩) s.fRefs.length c0, .slice (some ⟨g1, 0, none⟩) s.fLast.length c1] 65)).alloc (.cells #[.slice none 0 0, .slice none 0 0] 65))).cell? ⟨w.heap.size, 0, none⟩ = some (.slice (some ⟨g0, 0, none⟩) s.fRefs.length c0) := blk_cell hX 0
  have HX := Bx.mk hX
  have HRR := Bx.mk hR
  have HG := Bx.mk hG
  clear hX hR hG k0 k1 k2 k3
  generalize ((w.alloc (.cells #[.slice (some ⟨g0, 0, none⟩) s.fRefs.length c0, .slice (some ⟨g1, 0, none⟩) s.fLast.length c1] 65)).alloc (.cells #[.slice none 0 0, .slice none 0 0] 65)) = wr at *
  go_still_tail 10, (by kernel_rfl)
  change wpList _ _ _ _ _ wr.drew
  have HX : Bx ((wr.drew).heap[w.heap.size]? = some (.cells #[.slice (some ⟨g0, 0, none⟩) s.fRefs.length c0, .slice (some ⟨g1, 0, none⟩) s.fLast.length c1] 65 (0, 0))) := ⟨HX.out⟩
  have HRR : Bx ((wr.drew).heap[w.heap.size + 1]? = some (.cells #[.slice none 0 0, .slice none 0 0] 65 (0, 0))) := ⟨HRR.out⟩
  have P0 : Bx ((wr.drew).ownsRow B 3 1 (.slice (some ⟨g0, 0, none⟩) s.fRefs.length c0) s.fRefs.length (s.fRefs.flatMap encI)) := ⟨P0.out⟩
  have P1 : Bx ((wr.drew).ownsRow B 3 1 (.slice (some ⟨g1, 0, none⟩) s.fLast.length c1) s.fLast.length (s.fLast.flatMap encI)) := ⟨P1.out⟩
  have HG : Bx (GrownAll [.slice (some ⟨g0, 0, none⟩) s.fRefs.length c0, .slice (some ⟨g1, 0, none⟩) s.fLast.length c1] w wr.drew) := ⟨HG.out.trans (GrownAll.of_below (Below.refl wr.heap.size wr).drew (Nat.le_refl _))⟩
  have j0 : (wr.drew).cell? ⟨g0, a, none⟩ = some (.int .i64 r) := j0
  have j1 : (wr.drew).frozen? ⟨g0, a, none⟩ = false := j1
  clear x0
  generalize wr.drew = wd at *
  have y0 : (wd.setCell ⟨g0, a, none⟩ (.int .i64 (r - 1))).cell? ⟨g0, a, none⟩ = some (.int .i64 (r - 1)) := World.cell?_setCell_same _ _ _ j0
  have Y1 := Bx.mk (P1.out.kept (grown_set wd ⟨g0, a, none⟩ (.int .i64 (r - 1))) (.inr (by simp [Value.ownBlock]; omega)))
  have y2 : (wd.setCell ⟨g0, a, none⟩ (.int .i64 (r - 1))).cell? ⟨g1, a, none⟩ = some (.int .i64 (s.fLast.getD a 0)) := by rw [Y1.out.cellAt a (by omega)]; have := flat_get encI 1 encI_len s.fLast a ha1 0 (.int .i64 (s.fLast.getD a 0)) (by simp [List.getD, ha1, encI]); simpa using this
  have y3 := Y1.out.frozenAt a
  have hX1 := blk_set_other HX.out (p := ⟨g0, a, none⟩) e0 (.int .i64 (r - 1))
  have hR1 := blk_set_other HRR.out (p := ⟨g0, a, none⟩) e2 (.int .i64 (r - 1))
  have Q0 := Bx.mk (RowO.putI P0.out hg0 a (r - 1))
  have HG1 := Bx.mk (HG.out.put (by simp) HR.out.1 a (.int .i64 (r - 1)))
  have z0 : (wd.setCell ⟨g0, a, none⟩ (.int .i64 (r - 1))).cell? ⟨w.heap.size, 0, none⟩ = some (.slice (some ⟨g0, 0, none⟩) s.fRefs.length c0) := blk_cell hX1 0
  have z1 : (wd.setCell ⟨g0, a, none⟩ (.int .i64 (r - 1))).cell? ⟨w.heap.size, 1, none⟩ = some (.slice (some ⟨g1, 0, none⟩) s.fLast.length c1) := blk_cell hX1 1
  have z2 : (wd.setCell ⟨g0, a, none⟩ (.int .i64 (r - 1))).cell? ⟨w.heap.size + 1, 0, none⟩ = some (.slice none 0 0) := blk_cell hR1 0
  have z3 : (wd.setCell ⟨g0, a, none⟩ (.int .i64 (r - 1))).cell? ⟨w.heap.size + 1, 1, none⟩ = some (.slice none 0 0) := blk_cell hR1 1
  have z4 := blk_frozen hR1 0
  have z5 := blk_frozen hR1 1
  clear hX1 hR1
  by_cases hc : r - 1 = 0
  · have hcmp : (r - 1 == 0) = true := by simp [hc]
    have Q1 := Bx.mk (RowO.putI Y1.out hg1 a 0)
    have Q0' := Bx.mk (Q0.out.setO (p := ⟨g1, a, none⟩) (fun g hg => by rw [HR.out.1] at hg; simp at hg; simp; omega) (.int .i64 0))
    have HG2 := Bx.mk (HG1.out.put (by simp) HR.out.2 a (.int .i64 0))
    have HC := Bx.mk hc
    clear hc
    go_wp2
    refine bodyPost_ret (v := .agg #[.slice (some ⟨g0, 0, none⟩) s.fRefs.length c0, .slice (some ⟨g1, 0, none⟩) s.fLast.length c1]) (by simp [results, Try.results134, go_sem, z2, z3]) rfl ?_
    rw [hgive.out, if_pos HC.out]
    refine ⟨rfl, (Q0'.out.setO ?_ _).setO ?_ _, (Q1.out.setO ?_ _).setO ?_ _, (HG2.out.setNew ?_ _).setNew ?_ _⟩
    all_goals first | (intro g hg; (first | rw [HR.out.1] at hg | rw [HR.out.2] at hg); simp at hg; simp; omega) | (simp; done) | (simp; omega)
  · have hcmp : (r - 1 == 0) = false := by simp [hc]
    have Q1 := Bx.mk (RowO.mk Y1.out (fun g hg => by have := (Y1.out.lt g hg); simp [Value.ownBlock] at hg; omega) : RowO encI 1 3 (wd.setCell ⟨g0, a, none⟩ (.int .i64 (r - 1))) B B1 _ s.fLast)
    have HC := Bx.mk hc
    clear hc
    go_wp2
    refine bodyPost_ret (v := .agg #[.slice (some ⟨g0, 0, none⟩) s.fRefs.length c0, .slice (some ⟨g1, 0, none⟩) s.fLast.length c1]) (by simp [results, Try.results134, go_sem, z2, z3]) rfl ?_
    rw [hgive.out, if_neg HC.out]
    refine ⟨rfl, (Q0.out.setO ?_ _).setO ?_ _, (Q1.out.setO ?_ _).setO ?_ _, (HG1.out.setNew ?_ _).setNew ?_ _⟩
    all_goals first | (intro g hg; (first | rw [HR.out.1] at hg | rw [HR.out.2] at hg); simp at hg; simp; omega) | (simp; done) | (simp; omega)

set_option maxHeartbeats 1000000 in
set_option maxRecDepth 100000 in
theorem give_any (b o : Nat) (a0 : Option Addr) (c0 : Nat) (a1 : Option Addr) (c1 : Nat) (s : SpaceD) (a B B1 : Nat) (w : World) (ha : a < s.fRefs.length) (ha1 : a < s.fLast.length) (hl : s.fRefs.length ≤ 1048576) (hl1 : s.fLast.length ≤ 1048576)
    (hv0 : -1000000 ≤ s.fRefs.getD a 0) (hv1 : s.fRefs.getD a 0 ≤ 1000000)
    (k0 : w.cell? ⟨b, o, none⟩ = some (.slice a0 s.fRefs.length c0)) (k1 : w.cell? ⟨b, o + 1, none⟩ = some (.slice a1 s.fLast.length c1)) (hb0 : Value.rowBlock (.slice a0 s.fRefs.length c0) ≠ some b)
    (r0 : RowO encI 1 3 w B B1 (.slice a0 s.fRefs.length c0) s.fRefs) (r1 : RowO encI 1 3 w B B1 (.slice a1 s.fLast.length c1) s.fLast) (hap : Apart (.slice a0 s.fRefs.length c0) (.slice a1 s.fLast.length c1)) :
    Calls Try.prog 135 #[.pointer (some ⟨b, o, none⟩), .int .i64 (a : Int)] w fun e w' => e = .returned (.tuple #[]) ∧
      RowO encI 1 3 w' B B1 (.slice a0 s.fRefs.length c0) (s.give a).fRefs ∧ RowO encI 1 3 w' B B1 (.slice a1 s.fLast.length c1) (s.give a).fLast ∧ GrownAll [.slice a0 s.fRefs.length c0, .slice a1 s.fLast.length c1] w w' := by
  obtain ⟨g0, rfl, hB0, hg0, hs0, hrb0, o0⟩ := r0.open1 (by omega)
  obtain ⟨g1, rfl, hB1, hg1, hs1, hrb1, o1⟩ := r1.open1 (by omega)
  have hne : g0 ≠ g1 := by
    rcases hap with h | h
    · rw [hrb0] at h; cases h
    · rw [hrb0, hrb1] at h; exact fun e => h (by rw [e])
  have hbg : b ≠ g0 := fun e => hb0 (by rw [hrb0, e])
  have hx : s.fRefs[a]? = some (s.fRefs.getD a 0) := by rw [List.getElem?_eq_getElem ha]; simp [List.getD, ha]
  have hgive : Bx (s.give a = { fRefs := s.fRefs.set a (s.fRefs.getD a 0 - 1), fLast := if s.fRefs.getD a 0 - 1 = 0 then s.fLast.set a 0 else s.fLast }) := ⟨rfl⟩
  generalize s.fRefs.getD a 0 = r at *
  have j0 : w.cell? ⟨g0, a, none⟩ = some (.int .i64 r) := by rw [o0.cellAt a (by omega)]; have := flat_get encI 1 encI_len s.fRefs a ha 0 (.int .i64 r) (by rw [List.getElem?_eq_getElem ha] at hx; rw [Option.some.inj hx]; rfl); simpa using this
  have j1 := o0.frozenAt a
  have P0 := Bx.mk o0
  have P1 := Bx.mk o1
  have HR := Bx.mk (And.intro hrb0 hrb1)
  clear r0 r1 o0 o1 hap hx hrb0 hrb1 hb0
  have y0 : (w.setCell ⟨g0, a, none⟩ (.int .i64 (r - 1))).cell? ⟨g0, a, none⟩ = some (.int .i64 (r - 1)) := World.cell?_setCell_same _ _ _ j0
  have Y1 := Bx.mk (P1.out.kept (grown_set w ⟨g0, a, none⟩ (.int .i64 (r - 1))) (.inr (by simp [Value.ownBlock]; omega)))
  have y2 : (w.setCell ⟨g0, a, none⟩ (.int .i64 (r - 1))).cell? ⟨g1, a, none⟩ = some (.int .i64 (s.fLast.getD a 0)) := by rw [Y1.out.cellAt a (by omega)]; have := flat_get encI 1 encI_len s.fLast a ha1 0 (.int .i64 (s.fLast.getD a 0)) (by simp [List.getD, ha1, encI]); simpa using this
  have y3 := Y1.out.frozenAt a
  have Q0 := Bx.mk (RowO.putI P0.out hg0 a (r - 1))
  have HG1 := Bx.mk ((GrownAll.refl [.slice (some ⟨g0, 0, none⟩) s.fRefs.length c0, .slice (some ⟨g1, 0, none⟩) s.fLast.length c1] w).put (by simp) HR.out.1 a (.int .i64 (r - 1)))
  have z0 : (w.setCell ⟨g0, a, none⟩ (.int .i64 (r - 1))).cell? ⟨b, o, none⟩ = some (.slice (some ⟨g0, 0, none⟩) s.fRefs.length c0) := (World.cell?_setCell_other _ _ _ _ (fun e => by injection e with e _ _; omega)).trans k0
  have z1 : (w.setCell ⟨g0, a, none⟩ (.int .i64 (r - 1))).cell? ⟨b, o + 1, none⟩ = some (.slice (some ⟨g1, 0, none⟩) s.fLast.length c1) := (World.cell?_setCell_other _ _ _ _ (fun e => by injection e with e _ _; omega)).trans k1
  by_cases hc : r - 1 = 0
  · have hcmp : (r - 1 == 0) = true := by simp [hc]
    have Q1 := Bx.mk (RowO.putI Y1.out hg1 a 0)
    have Q0' := Bx.mk (Q0.out.setO (p := ⟨g1, a, none⟩) (fun g hg => by rw [HR.out.1] at hg; simp at hg; simp; omega) (.int .i64 0))
    have HG2 := Bx.mk (HG1.out.put (by simp) HR.out.2 a (.int .i64 0))
    have HC := Bx.mk hc
    clear hc
    go_enter Try.func135, Try.ntmps135
    go_wp2
    go_end0
    rw [hgive.out, if_pos HC.out]
    exact ⟨rfl, Q0'.out, Q1.out, HG2.out⟩
  · have hcmp : (r - 1 == 0) = false := by simp [hc]
    have Q1 := Bx.mk (RowO.mk Y1.out (fun g hg => by have := (Y1.out.lt g hg); simp [Value.ownBlock] at hg; omega) : RowO encI 1 3 (w.setCell ⟨g0, a, none⟩ (.int .i64 (r - 1))) B B1 _ s.fLast)
    have HC := Bx.mk hc
    clear hc
    go_enter Try.func135, Try.ntmps135
    go_wp2
    go_end0
    rw [hgive.out, if_neg HC.out]
    exact ⟨rfl, Q0.out, Q1.out, HG1.out⟩
end Go.Proofs.Ytkgmilobmbeplaa
