/- The reference's l7Free. -/
import Derived.Test.YtkgmilobmbeplaaStoreNS
import Derived.Test.YtkgmilobmbeplaaApp
import Derived.Test.YtkgmilobmbeplaaOk
namespace Go.Proofs.Ytkgmilobmbeplaa
open Go.RowKit

theorem Apart.grown {a v v' : Value} {m : Nat} (h : Apart a v) (hn : ∀ g, Value.rowBlock v' = some g → Value.rowBlock v = some g ∨ m ≤ g) (ha : ∀ g, Value.rowBlock a = some g → g < m) : Apart a v' := by
  unfold Apart at h ⊢
  cases hr : Value.rowBlock a with
  | none => exact .inl rfl
  | some g =>
    right
    intro e
    rw [hr] at h
    rcases hn g e.symm with h1 | h1
    · rcases h with h | h
      · cases h
      · exact h h1.symm
    · have := ha g hr
      omega
theorem Box.grown {w w' : World} {b n : Nat} {t : TypeId} {v : Value} {row : Option Nat} (h : Box w b n t v) (hg : w.grownBy w' row) (hr : some b ≠ row) : Box w' b n t v := by
  obtain ⟨cs, e, hl, h1, hh⟩ := h
  exact ⟨cs, e, hl, h1, blk_grown hh hg hr⟩
theorem Outside.of_row {B B1 : Nat} {w w' : World} {v : Value} (hg : w.grownBy w' (Value.rowBlock v)) (hv : ∀ g, Value.rowBlock v = some g → B ≤ g ∧ g < B1) : Outside B B1 w w' := Outside.grown hg hv
/-- A box in a new block, whatever else: what was there ahead is as it was. -/
theorem Outside.box {B B1 b : Nat} {w w2 w3 : World} (h : Outside B B1 w w2) (hO : Outside b (b + 1) w2 w3) (hb : w.heap.size ≤ b) : Outside B B1 w w3 :=
  ⟨hO.os.trans h.os, hO.tape.trans h.tape, hO.output.trans h.output, Nat.le_trans h.size hO.size, fun k hk hne => (hO.block k (Nat.lt_of_lt_of_le hk h.size) (by omega)).trans (h.block k hk hne)⟩

def StoreD.free (st : StoreD) (p : PtrD) : StoreD :=
  if p.hole then st else if p.fBirth ≤ st.fKeep then { st with fDead := st.fDead ++ [p] } else if p.fBirth < st.fTxg then { st with fGone := st.fGone ++ [p] } else { st with fRows := dropRows st.fRows st.fSpace p.fAt.toNat, fSpace := st.fSpace.give p.fAt.toNat }
theorem free_hole {st : StoreD} {p : PtrD} (h : p.hole = true) : st.free p = st := by unfold StoreD.free; rw [if_pos h]
theorem free_dead {st : StoreD} {p : PtrD} (h : p.hole = false) (h1 : p.fBirth ≤ st.fKeep) : st.free p = { st with fDead := st.fDead ++ [p] } := by unfold StoreD.free; rw [h, if_neg (by simp), if_pos h1]
theorem free_gone {st : StoreD} {p : PtrD} (h : p.hole = false) (h1 : ¬ p.fBirth ≤ st.fKeep) (h2 : p.fBirth < st.fTxg) : st.free p = { st with fGone := st.fGone ++ [p] } := by unfold StoreD.free; rw [h, if_neg (by simp), if_neg h1, if_pos h2]
theorem free_drop {st : StoreD} {p : PtrD} (h : p.hole = false) (h1 : ¬ p.fBirth ≤ st.fKeep) (h2 : ¬ p.fBirth < st.fTxg) : st.free p = { st with fRows := dropRows st.fRows st.fSpace p.fAt.toNat, fSpace := st.fSpace.give p.fAt.toNat } := by unfold StoreD.free; rw [h, if_neg (by simp), if_neg h1, if_neg h2]

theorem own_dead_of {st : StoreD} {p : PtrD} {d0 : Option Addr} {f0 : Nat} {d1 : Option Addr} {f1 : Nat} {d2 : Option Addr} {f2 : Nat} {d4 : Option Addr} {f4 : Nat} {d6 : Option Addr} {f6 : Nat} {w' : World} {B B1 : Nat}
    (m0 : RowO encS 1 9 w' B B1 (.slice d0 st.fRows.length f0) st.fRows)
    (m1 : RowO encI 1 3 w' B B1 (.slice d1 st.fSpace.fRefs.length f1) st.fSpace.fRefs)
    (m2 : RowO encI 1 3 w' B B1 (.slice d2 st.fSpace.fLast.length f2) st.fSpace.fLast)
    (m4 : RowO PtrD.cells 5 78 w' B B1 (.slice d4 st.fGone.length f4) st.fGone)
    (m6 : RowO PtrD.cells 5 78 w' B B1 (.slice d6 (st.fDead.length + 1) f6) (st.fDead ++ [p]))
    (p01 : Apart (.slice d0 st.fRows.length f0) (.slice d1 st.fSpace.fRefs.length f1)) (p02 : Apart (.slice d0 st.fRows.length f0) (.slice d2 st.fSpace.fLast.length f2)) (p04 : Apart (.slice d0 st.fRows.length f0) (.slice d4 st.fGone.length f4)) (p06 : Apart (.slice d0 st.fRows.length f0) (.slice d6 (st.fDead.length + 1) f6)) (p12 : Apart (.slice d1 st.fSpace.fRefs.length f1) (.slice d2 st.fSpace.fLast.length f2)) (p14 : Apart (.slice d1 st.fSpace.fRefs.length f1) (.slice d4 st.fGone.length f4)) (p16 : Apart (.slice d1 st.fSpace.fRefs.length f1) (.slice d6 (st.fDead.length + 1) f6)) (p24 : Apart (.slice d2 st.fSpace.fLast.length f2) (.slice d4 st.fGone.length f4)) (p26 : Apart (.slice d2 st.fSpace.fLast.length f2) (.slice d6 (st.fDead.length + 1) f6)) (p46 : Apart (.slice d4 st.fGone.length f4) (.slice d6 (st.fDead.length + 1) f6)) :
    StoreD.Own w' B B1 (.agg #[.slice d0 st.fRows.length f0, .slice d1 st.fSpace.fRefs.length f1, .slice d2 st.fSpace.fLast.length f2, .int .i64 st.fTxg, .slice d4 st.fGone.length f4, .int .i64 st.fKeep, .slice d6 (st.fDead.length + 1) f6, .bool st.fSame]) { st with fDead := st.fDead ++ [p] } := by
  have e : (st.fDead ++ [p]).length = st.fDead.length + 1 := by simp
  refine ⟨d0, f0, d1, f1, d2, f2, d4, f4, d6, f6, ?_, m0, m1, m2, ?_, ?_, p01, p02, p04, ?_, p12, p14, ?_, p24, ?_, ?_⟩ <;> dsimp only
  · rw [e]
  · exact m4
  · rw [e]; exact m6
  · rw [e]; exact p06
  · rw [e]; exact p16
  · rw [e]; exact p26
  · rw [e]; exact p46
theorem own_gone_of {st : StoreD} {p : PtrD} {d0 : Option Addr} {f0 : Nat} {d1 : Option Addr} {f1 : Nat} {d2 : Option Addr} {f2 : Nat} {d4 : Option Addr} {f4 : Nat} {d6 : Option Addr} {f6 : Nat} {w' : World} {B B1 : Nat}
    (m0 : RowO encS 1 9 w' B B1 (.slice d0 st.fRows.length f0) st.fRows)
    (m1 : RowO encI 1 3 w' B B1 (.slice d1 st.fSpace.fRefs.length f1) st.fSpace.fRefs)
    (m2 : RowO encI 1 3 w' B B1 (.slice d2 st.fSpace.fLast.length f2) st.fSpace.fLast)
    (m4 : RowO PtrD.cells 5 78 w' B B1 (.slice d4 (st.fGone.length + 1) f4) (st.fGone ++ [p]))
    (m6 : RowO PtrD.cells 5 78 w' B B1 (.slice d6 st.fDead.length f6) st.fDead)
    (p01 : Apart (.slice d0 st.fRows.length f0) (.slice d1 st.fSpace.fRefs.length f1)) (p02 : Apart (.slice d0 st.fRows.length f0) (.slice d2 st.fSpace.fLast.length f2)) (p04 : Apart (.slice d0 st.fRows.length f0) (.slice d4 (st.fGone.length + 1) f4)) (p06 : Apart (.slice d0 st.fRows.length f0) (.slice d6 st.fDead.length f6)) (p12 : Apart (.slice d1 st.fSpace.fRefs.length f1) (.slice d2 st.fSpace.fLast.length f2)) (p14 : Apart (.slice d1 st.fSpace.fRefs.length f1) (.slice d4 (st.fGone.length + 1) f4)) (p16 : Apart (.slice d1 st.fSpace.fRefs.length f1) (.slice d6 st.fDead.length f6)) (p24 : Apart (.slice d2 st.fSpace.fLast.length f2) (.slice d4 (st.fGone.length + 1) f4)) (p26 : Apart (.slice d2 st.fSpace.fLast.length f2) (.slice d6 st.fDead.length f6)) (p46 : Apart (.slice d4 (st.fGone.length + 1) f4) (.slice d6 st.fDead.length f6)) :
    StoreD.Own w' B B1 (.agg #[.slice d0 st.fRows.length f0, .slice d1 st.fSpace.fRefs.length f1, .slice d2 st.fSpace.fLast.length f2, .int .i64 st.fTxg, .slice d4 (st.fGone.length + 1) f4, .int .i64 st.fKeep, .slice d6 st.fDead.length f6, .bool st.fSame]) { st with fGone := st.fGone ++ [p] } := by
  have e : (st.fGone ++ [p]).length = st.fGone.length + 1 := by simp
  refine ⟨d0, f0, d1, f1, d2, f2, d4, f4, d6, f6, ?_, m0, m1, m2, ?_, ?_, p01, p02, ?_, p06, p12, ?_, p16, ?_, p26, ?_⟩ <;> dsimp only
  · rw [e]
  · rw [e]; exact m4
  · exact m6
  · rw [e]; exact p04
  · rw [e]; exact p14
  · rw [e]; exact p24
  · rw [e]; exact p46
theorem cells_ptr (p : PtrD) : ∀ u ∈ p.cells, u.oneCell' = true := fun u hu => by
  simp only [PtrD.cells, List.mem_cons, List.not_mem_nil, or_false] at hu
  rcases hu with rfl | rfl | rfl | rfl | rfl <;> rfl

theorem RowO.boxN {α : Type} {enc : α → List Value} {size : Nat} {e : TypeId} {w w' : World} {B B1 : Nat} {v : Value} {xs : List α} (h : RowO enc size e w B B1 v xs) {b : Nat} (hO : Outside b (b + 1) w w') (hne : ∀ g, Value.rowBlock v = some g → g ≠ b) : RowO enc size e w' B B1 v xs :=
  h.grown hO.row (by
    cases hr : Value.rowBlock v with
    | none => exact .inl rfl
    | some g => exact .inr (fun e => hne g hr (Option.some.inj e)))
theorem own_drop_of {st : StoreD} {p : PtrD} {d0 : Option Addr} {f0 : Nat} {d1 : Option Addr} {f1 : Nat} {d2 : Option Addr} {f2 : Nat} {d4 : Option Addr} {f4 : Nat} {d6 : Option Addr} {f6 : Nat} {w' : World} {B B1 : Nat}
    (m0 : RowO encS 1 9 w' B B1 (.slice d0 st.fRows.length f0) (dropRS (st.fRows, st.fSpace) p).1) (m1 : RowO encI 1 3 w' B B1 (.slice d1 st.fSpace.fRefs.length f1) (dropRS (st.fRows, st.fSpace) p).2.fRefs)
    (m2 : RowO encI 1 3 w' B B1 (.slice d2 st.fSpace.fLast.length f2) (dropRS (st.fRows, st.fSpace) p).2.fLast) (m4 : RowO PtrD.cells 5 78 w' B B1 (.slice d4 st.fGone.length f4) st.fGone) (m6 : RowO PtrD.cells 5 78 w' B B1 (.slice d6 st.fDead.length f6) st.fDead)
    (p01 : Apart (.slice d0 st.fRows.length f0) (.slice d1 st.fSpace.fRefs.length f1)) (p02 : Apart (.slice d0 st.fRows.length f0) (.slice d2 st.fSpace.fLast.length f2)) (p04 : Apart (.slice d0 st.fRows.length f0) (.slice d4 st.fGone.length f4)) (p06 : Apart (.slice d0 st.fRows.length f0) (.slice d6 st.fDead.length f6))
    (p12 : Apart (.slice d1 st.fSpace.fRefs.length f1) (.slice d2 st.fSpace.fLast.length f2)) (p14 : Apart (.slice d1 st.fSpace.fRefs.length f1) (.slice d4 st.fGone.length f4)) (p16 : Apart (.slice d1 st.fSpace.fRefs.length f1) (.slice d6 st.fDead.length f6)) (p24 : Apart (.slice d2 st.fSpace.fLast.length f2) (.slice d4 st.fGone.length f4)) (p26 : Apart (.slice d2 st.fSpace.fLast.length f2) (.slice d6 st.fDead.length f6)) (p46 : Apart (.slice d4 st.fGone.length f4) (.slice d6 st.fDead.length f6)) :
    StoreD.Own w' B B1 (.agg #[.slice d0 st.fRows.length f0, .slice d1 st.fSpace.fRefs.length f1, .slice d2 st.fSpace.fLast.length f2, .int .i64 st.fTxg, .slice d4 st.fGone.length f4, .int .i64 st.fKeep, .slice d6 st.fDead.length f6, .bool st.fSame]) { st with fRows := dropRows st.fRows st.fSpace p.fAt.toNat, fSpace := st.fSpace.give p.fAt.toNat } := by
  have e0 : (dropRows st.fRows st.fSpace p.fAt.toNat).length = st.fRows.length := dropRows_len _ _ _
  have e1 := SpaceD.give_refs st.fSpace p.fAt.toNat
  have e2 := SpaceD.give_last st.fSpace p.fAt.toNat
  refine ⟨d0, f0, d1, f1, d2, f2, d4, f4, d6, f6, ?_, ?_, ?_, ?_, m4, m6, ?_, ?_, ?_, ?_, ?_, ?_, ?_, ?_, ?_, p46⟩ <;> dsimp only
  · rw [e0, e1, e2]
  · rw [e0]; exact m0
  · rw [e1]; exact m1
  · rw [e2]; exact m2
  · rw [e0, e1]; exact p01
  · rw [e0, e2]; exact p02
  · rw [e0]; exact p04
  · rw [e0]; exact p06
  · rw [e1, e2]; exact p12
  · rw [e1]; exact p14
  · rw [e1]; exact p16
  · rw [e2]; exact p24
  · rw [e2]; exact p26

set_option maxHeartbeats 2000000 in
set_option maxRecDepth 100000 in
theorem l7Free_any (v : Value) (st : StoreD) (p : PtrD) (B B1 : Nat) (w : World) (hf : st.Fit) (ho : StoreD.Own w B B1 v st) (hBB : B ≤ B1) (hB1 : B1 ≤ w.heap.size) (h0 : st.fRows.length = 64) (h1 : st.fSpace.fRefs.length = 64) (h2 : st.fSpace.fLast.length = 64)
    (hp : p.hole = false → (8 ≤ p.fAt ∧ p.fAt ≤ 63) ∧ 1 ≤ st.fSpace.fRefs.getD p.fAt.toNat 0 ∧ st.fSpace.fRefs.getD p.fAt.toNat 0 ≤ 1000000) :
    Calls Try.prog 89 #[v, .agg #[.int .i64 p.fAt, .int .i64 p.fBirth, .int .i64 p.fSize, .int .i64 p.fSum, .int .i64 p.fLevel]] w fun e w' => ∃ v', e = .returned v' ∧ StoreD.Own w' B w'.heap.size v' (st.free p) ∧ Outside B B1 w w' := by
  have HO := Bx.mk ho
  obtain ⟨a0, c0, a1, c1, a2, c2, a4, c4, a6, c6, rfl, q0, q1, q2, q4, q6, p01, p02, p04, p06, p12, p14, p16, p24, p26, p46⟩ := ho
  have QS := Bx.mk (And.intro q0 (And.intro q1 (And.intro q2 (And.intro q4 q6))))
  have PS := Bx.mk (And.intro p01 (And.intro p02 (And.intro p04 (And.intro p06 (And.intro p12 (And.intro p14 (And.intro p16 (And.intro p24 (And.intro p26 p46)))))))))
  obtain ⟨ip, hip, hp0, hp1, hp2⟩ := info_parts Try.infoPtrS
  have HS := Bx.mk (And.intro h0 (And.intro h1 h2))
  have HP := Bx.mk hp
  have hf4 := hf.f4
  have hf6 := hf.f6
  have HX := Bx.mk (((Box.new w [.slice a0 st.fRows.length c0, .slice a1 st.fSpace.fRefs.length c1, .slice a2 st.fSpace.fLast.length c2, .int .i64 st.fTxg, .slice a4 st.fGone.length c4, .int .i64 st.fKeep, .slice a6 st.fDead.length c6, .bool st.fSame] 68 rfl rfl).alloc (.cells #[.int .i64 p.fAt, .int .i64 p.fBirth, .int .i64 p.fSize, .int .i64 p.fSum, .int .i64 p.fLevel] 78)).alloc (.cells #[.slice none 0 0, .slice none 0 0, .slice none 0 0, .int .i64 0, .slice none 0 0, .int .i64 0, .slice none 0 0, .bool false] 68))
  have HPb := Bx.mk ((Box.new (w.alloc (.cells #[.slice a0 st.fRows.length c0, .slice a1 st.fSpace.fRefs.length c1, .slice a2 st.fSpace.fLast.length c2, .int .i64 st.fTxg, .slice a4 st.fGone.length c4, .int .i64 st.fKeep, .slice a6 st.fDead.length c6, .bool st.fSame] 68)) [.int .i64 p.fAt, .int .i64 p.fBirth, .int .i64 p.fSize, .int .i64 p.fSum, .int .i64 p.fLevel] 78 rfl (b := w.heap.size + 1) (sz_alloc _ _).symm).alloc (.cells #[.slice none 0 0, .slice none 0 0, .slice none 0 0, .int .i64 0, .slice none 0 0, .int .i64 0, .slice none 0 0, .bool false] 68))
  have HR := Bx.mk (Box.new ((w.alloc (.cells #[.slice a0 st.fRows.length c0, .slice a1 st.fSpace.fRefs.length c1, .slice a2 st.fSpace.fLast.length c2, .int .i64 st.fTxg, .slice a4 st.fGone.length c4, .int .i64 st.fKeep, .slice a6 st.fDead.length c6, .bool st.fSame] 68)).alloc (.cells #[.int .i64 p.fAt, .int .i64 p.fBirth, .int .i64 p.fSize, .int .i64 p.fSum, .int .i64 p.fLevel] 78)) [.slice none 0 0, .slice none 0 0, .slice none 0 0, .int .i64 0, .slice none 0 0, .int .i64 0, .slice none 0 0, .bool false] 68 rfl (b := w.heap.size + 1 + 1) (by simp))
  have HB : Bx (Below w.heap.size w (((w.alloc (.cells #[.slice a0 st.fRows.length c0, .slice a1 st.fSpace.fRefs.length c1, .slice a2 st.fSpace.fLast.length c2, .int .i64 st.fTxg, .slice a4 st.fGone.length c4, .int .i64 st.fKeep, .slice a6 st.fDead.length c6, .bool st.fSame] 68)).alloc (.cells #[.int .i64 p.fAt, .int .i64 p.fBirth, .int .i64 p.fSize, .int .i64 p.fSum, .int .i64 p.fLevel] 78)).alloc (.cells #[.slice none 0 0, .slice none 0 0, .slice none 0 0, .int .i64 0, .slice none 0 0, .int .i64 0, .slice none 0 0, .bool false] 68))) := ⟨(((Below.refl _ _).alloc (Nat.le_refl _) _).alloc (by simp) _).alloc (by simp; omega) _⟩
  clear q0 q1 q2 q4 q6 p01 p02 p04 p06 p12 p14 p16 p24 p26 p46 h0 h1 h2 hp
  go_enter Try.func89, Try.ntmps89
  go_wp2_with fail
  refine (specHole_any p _).mono ?_
  rintro e w1 ⟨rfl, b⟩
  replace HX := Bx.mk (HX.out.below b (Nat.le_refl _))
  replace HPb := Bx.mk (HPb.out.below b (Nat.le_refl _))
  replace HR := Bx.mk (HR.out.below b (Nat.le_refl _))
  replace HB := Bx.mk (HB.out.trans (b.mono HB.out.size))
  replace HO := Bx.mk (HO.out.below HB.out (Nat.le_refl _))
  replace QS := Bx.mk (And.intro (QS.out.1.below HB.out (Nat.le_refl _)) (And.intro (QS.out.2.1.below HB.out (Nat.le_refl _)) (And.intro (QS.out.2.2.1.below HB.out (Nat.le_refl _)) (And.intro (QS.out.2.2.2.1.below HB.out (Nat.le_refl _)) (QS.out.2.2.2.2.below HB.out (Nat.le_refl _))))))
  have hw1 : w.heap.size + 1 + 1 < w1.heap.size := HR.out.lt
  have y1 : w1.cell? ⟨w.heap.size + 1, 1, none⟩ = some (.int .i64 p.fBirth) := HPb.out.cell 1
  have x5 : w1.cell? ⟨w.heap.size, 5, none⟩ = some (.int .i64 st.fKeep) := HX.out.cell 5
  have x3 : w1.cell? ⟨w.heap.size, 3, none⟩ = some (.int .i64 st.fTxg) := HX.out.cell 3
  clear b
  cases hh : p.hole
  · have HH := Bx.mk hh
    by_cases hk : p.fBirth ≤ st.fKeep
    · have HF := Bx.mk (free_dead (st := st) hh hk)
      clear hh
      have x6 : w1.cell? ⟨w.heap.size, 6, none⟩ = some (.slice a6 st.fDead.length c6) := HX.out.cell 6
      have hw0 : w.heap.size < w1.heap.size := by omega
      have hw01 : w.heap.size + 1 < w1.heap.size := by omega
      have y0 : w1.cell? ⟨w.heap.size + 1, 0, none⟩ = some (.int .i64 p.fAt) := HPb.out.cell 0
      have y2 : w1.cell? ⟨w.heap.size + 1, 2, none⟩ = some (.int .i64 p.fSize) := HPb.out.cell 2
      have y3 : w1.cell? ⟨w.heap.size + 1, 3, none⟩ = some (.int .i64 p.fSum) := HPb.out.cell 3
      have y4 : w1.cell? ⟨w.heap.size + 1, 4, none⟩ = some (.int .i64 p.fLevel) := HPb.out.cell 4
      have AL : Bx (Below w1.heap.size w1 (w1.alloc (.cells #[.int .i64 p.fAt, .int .i64 p.fBirth, .int .i64 p.fSize, .int .i64 p.fSum, .int .i64 p.fLevel] 78))) := ⟨(Below.refl _ _).alloc (Nat.le_refl _) _⟩
      go_wp2_with (at_builtin; refine wpList_app1 rfl (.tmp 20) (.tmp 22) 66 rfl 78 ip _ 5 40 Try.underlying66 hip hp0 hp1 hp2 rfl (by decide) PtrD.cells_len _ _ rfl (RowO.below QS.out.2.2.2.2 AL.out (Nat.le_refl _)) ?s1 ⟨w1.heap.size, 0, none⟩ 1 rfl p ?s2 (cells_ptr p) ?s3 ?s4 ?_)
      case s1 => simp; omega
      case s2 => exact World.news_of_block (blk_new w1 _ _ rfl)
      case s3 => unfold maxLen; omega
      case s4 => omega
      intro ao cap w2 r hg hn
      have nB : ∀ {α : Type} {enc : α → List Value} {size : Nat} {e : TypeId} {v : Value} {xs : List α}, RowO enc size e w1 B B1 v xs → ∀ g, Value.rowBlock v = some g → g < w.heap.size := fun h g e => by have := (h.lt g e).2.1; omega
      have hX2 := (HX.out.below AL.out (Nat.le_refl _)).grown hg (fun e => Nat.lt_irrefl _ (nB QS.out.2.2.2.2 _ e.symm))
      have hR2 := (HR.out.below AL.out (Nat.le_refl _)).grown hg (fun e => by have := nB QS.out.2.2.2.2 _ e.symm; omega)
      have r0 := (RowO.below QS.out.1 AL.out (Nat.le_refl _)).grown hg PS.out.2.2.2.1
      have r1 := (RowO.below QS.out.2.1 AL.out (Nat.le_refl _)).grown hg PS.out.2.2.2.2.2.2.1
      have r2 := (RowO.below QS.out.2.2.1 AL.out (Nat.le_refl _)).grown hg PS.out.2.2.2.2.2.2.2.2.1
      have ro := (RowO.below QS.out.2.2.2.1 AL.out (Nat.le_refl _)).grown hg PS.out.2.2.2.2.2.2.2.2.2
      have hO2 : Outside B B1 w w2 := ((Outside.of_below HB.out (Nat.le_refl _)).trans (Outside.of_below AL.out (Nat.le_refl _))).trans (Outside.of_row hg (fun g e => ⟨(RowO.lt QS.out.2.2.2.2 g e).1, (RowO.lt QS.out.2.2.2.2 g e).2.1⟩))
      have hn6 : ∀ g, Value.rowBlock (.slice ao (st.fDead.length + 1) cap) = some g → g < w.heap.size ∨ w1.heap.size + 1 ≤ g := fun g e => by
        rcases hn g e with h | h
        · exact .inl (nB QS.out.2.2.2.2 g h)
        · exact .inr (by first | exact h | (rw [sz_alloc] at h; exact h))
      have hs2 := hg.size
      rw [sz_alloc] at hs2
      have j6 : w2.cell? ⟨w.heap.size, 6, none⟩ = some (.slice a6 st.fDead.length c6) := hX2.cell 6
      have jf := hX2.frozen 6
      have HX3 : Bx (Box (w2.setCell ⟨w.heap.size, 6, none⟩ (.slice ao (st.fDead.length + 1) cap)) w.heap.size 8 68 (.agg #[.slice a0 st.fRows.length c0, .slice a1 st.fSpace.fRefs.length c1, .slice a2 st.fSpace.fLast.length c2, .int .i64 st.fTxg, .slice a4 st.fGone.length c4, .int .i64 st.fKeep, .slice ao (st.fDead.length + 1) cap, .bool st.fSame])) := ⟨hX2.putField 6 rfl⟩
      have HR3 := Bx.mk (hR2.setCell (p := ⟨w.heap.size, 6, none⟩) (show w.heap.size + 1 + 1 ≠ w.heap.size by omega) (.slice ao (st.fDead.length + 1) cap))
      have HO3 : Bx (Outside w.heap.size (w.heap.size + 1) w2 (w2.setCell ⟨w.heap.size, 6, none⟩ (.slice ao (st.fDead.length + 1) cap))) := ⟨(Outside.refl _ _ _).set (by simp) _⟩
      have RR := Bx.mk (And.intro r0 (And.intro r1 (And.intro r2 (And.intro ro r))))
      have HN := Bx.mk (And.intro hn (And.intro hn6 hO2))
      have NB := Bx.mk (And.intro (nB QS.out.1) (And.intro (nB QS.out.2.1) (And.intro (nB QS.out.2.2.1) (nB QS.out.2.2.2.1))))
      clear nB hX2 hR2 r0 r1 r2 ro r hg hn hn6 hO2
      go_wp2_with (first | (refine wpList_load_box rfl 68 _ rfl w.heap.size 8 _ _ rfl HX3.out _ Try.underlying68 rfl ?hI1 ?_) | (refine wpList_store_box rfl 68 _ _ rfl (w.heap.size + 1 + 1) 8 _ _ _ rfl rfl HR3.out (cells_store _ _ _ _ _ _ _ _ _ _ _ _ _ _ _ _ _ _) ?hI2 ?_))
      case hI1 => kernel_rfl
      case hI2 => kernel_rfl
      intro w4 hR4 hO4 hs4
      try rw [sz_set] at hs4
      go_wp2
      refine bodyPost_ret (v := .agg #[.slice a0 st.fRows.length c0, .slice a1 st.fSpace.fRefs.length c1, .slice a2 st.fSpace.fLast.length c2, .int .i64 st.fTxg, .slice a4 st.fGone.length c4, .int .i64 st.fKeep, .slice ao (st.fDead.length + 1) cap, .bool st.fSame]) (by simp [results, Try.results89, go_sem, hR4.cell 0, hR4.cell 1, hR4.cell 2, hR4.cell 3, hR4.cell 4, hR4.cell 5, hR4.cell 6, hR4.cell 7]) rfl ?_
      rw [HF.out]
      have ne : ∀ {v : Value}, (∀ g, Value.rowBlock v = some g → g < w.heap.size) → (∀ g, Value.rowBlock v = some g → g ≠ w.heap.size) ∧ (∀ g, Value.rowBlock v = some g → g ≠ w.heap.size + 1 + 1) := fun h => ⟨fun g e => by have := h g e; omega, fun g e => by have := h g e; omega⟩
      have n0 := ne NB.out.1
      have n1 := ne NB.out.2.1
      have n2 := ne NB.out.2.2.1
      have no := ne NB.out.2.2.2
      have nr : (∀ g, Value.rowBlock (.slice ao (st.fDead.length + 1) cap) = some g → g ≠ w.heap.size) ∧ (∀ g, Value.rowBlock (.slice ao (st.fDead.length + 1) cap) = some g → g ≠ w.heap.size + 1 + 1) := ⟨fun g e => by have := HN.out.2.1 g e; omega, fun g e => by have := HN.out.2.1 g e; omega⟩
      have t0 := ((RR.out.1.boxN HO3.out n0.1).boxN hO4 n0.2).mono (Nat.le_refl B) (show B1 ≤ w4.heap.size by omega)
      have t1 := ((RR.out.2.1.boxN HO3.out n1.1).boxN hO4 n1.2).mono (Nat.le_refl B) (show B1 ≤ w4.heap.size by omega)
      have t2 := ((RR.out.2.2.1.boxN HO3.out n2.1).boxN hO4 n2.2).mono (Nat.le_refl B) (show B1 ≤ w4.heap.size by omega)
      have tt := ((RR.out.2.2.2.1.boxN HO3.out no.1).boxN hO4 no.2).mono (Nat.le_refl B) (show B1 ≤ w4.heap.size by omega)
      have tr := ((RR.out.2.2.2.2.boxN HO3.out nr.1).boxN hO4 nr.2).mono (Nat.le_refl B) (show w2.heap.size ≤ w4.heap.size by omega)
      have hlt : ∀ {v : Value}, (∀ g, Value.rowBlock v = some g → g < w.heap.size) → ∀ g, Value.rowBlock v = some g → g < w1.heap.size + 1 := fun h g e => by have := h g e; omega
      exact ⟨_, rfl, own_dead_of t0 t1 t2 tt tr PS.out.1 PS.out.2.1 PS.out.2.2.1 (Apart.grown PS.out.2.2.2.1 HN.out.1 (hlt NB.out.1)) PS.out.2.2.2.2.1 PS.out.2.2.2.2.2.1 (Apart.grown PS.out.2.2.2.2.2.2.1 HN.out.1 (hlt NB.out.2.1)) PS.out.2.2.2.2.2.2.2.1 (Apart.grown PS.out.2.2.2.2.2.2.2.2.1 HN.out.1 (hlt NB.out.2.2.1)) (Apart.grown PS.out.2.2.2.2.2.2.2.2.2 HN.out.1 (hlt NB.out.2.2.2)), (HN.out.2.2.box HO3.out (Nat.le_refl _)).box hO4 (by omega)⟩
    · by_cases ht : p.fBirth < st.fTxg
      · have HF := Bx.mk (free_gone hh hk ht)
        clear hh
        have x4 : w1.cell? ⟨w.heap.size, 4, none⟩ = some (.slice a4 st.fGone.length c4) := HX.out.cell 4
        have hw0 : w.heap.size < w1.heap.size := by omega
        have hw01 : w.heap.size + 1 < w1.heap.size := by omega
        have y0 : w1.cell? ⟨w.heap.size + 1, 0, none⟩ = some (.int .i64 p.fAt) := HPb.out.cell 0
        have y2 : w1.cell? ⟨w.heap.size + 1, 2, none⟩ = some (.int .i64 p.fSize) := HPb.out.cell 2
        have y3 : w1.cell? ⟨w.heap.size + 1, 3, none⟩ = some (.int .i64 p.fSum) := HPb.out.cell 3
        have y4 : w1.cell? ⟨w.heap.size + 1, 4, none⟩ = some (.int .i64 p.fLevel) := HPb.out.cell 4
        have AL : Bx (Below w1.heap.size w1 (w1.alloc (.cells #[.int .i64 p.fAt, .int .i64 p.fBirth, .int .i64 p.fSize, .int .i64 p.fSum, .int .i64 p.fLevel] 78))) := ⟨(Below.refl _ _).alloc (Nat.le_refl _) _⟩
        go_wp2_with (at_builtin; refine wpList_app1 rfl (.tmp 32) (.tmp 34) 66 rfl 78 ip _ 5 40 Try.underlying66 hip hp0 hp1 hp2 rfl (by decide) PtrD.cells_len _ _ rfl (RowO.below QS.out.2.2.2.1 AL.out (Nat.le_refl _)) ?s1 ⟨w1.heap.size, 0, none⟩ 1 rfl p ?s2 (cells_ptr p) ?s3 ?s4 ?_)
        case s1 => simp; omega
        case s2 => exact World.news_of_block (blk_new w1 _ _ rfl)
        case s3 => unfold maxLen; omega
        case s4 => omega
        intro ao cap w2 r hg hn
        have nB : ∀ {α : Type} {enc : α → List Value} {size : Nat} {e : TypeId} {v : Value} {xs : List α}, RowO enc size e w1 B B1 v xs → ∀ g, Value.rowBlock v = some g → g < w.heap.size := fun h g e => by have := (h.lt g e).2.1; omega
        have hX2 := (HX.out.below AL.out (Nat.le_refl _)).grown hg (fun e => Nat.lt_irrefl _ (nB QS.out.2.2.2.1 _ e.symm))
        have hR2 := (HR.out.below AL.out (Nat.le_refl _)).grown hg (fun e => by have := nB QS.out.2.2.2.1 _ e.symm; omega)
        have r0 := (RowO.below QS.out.1 AL.out (Nat.le_refl _)).grown hg PS.out.2.2.1
        have r1 := (RowO.below QS.out.2.1 AL.out (Nat.le_refl _)).grown hg PS.out.2.2.2.2.2.1
        have r2 := (RowO.below QS.out.2.2.1 AL.out (Nat.le_refl _)).grown hg PS.out.2.2.2.2.2.2.2.1
        have ro := (RowO.below QS.out.2.2.2.2 AL.out (Nat.le_refl _)).grown hg (Apart.symm PS.out.2.2.2.2.2.2.2.2.2)
        have hO2 : Outside B B1 w w2 := ((Outside.of_below HB.out (Nat.le_refl _)).trans (Outside.of_below AL.out (Nat.le_refl _))).trans (Outside.of_row hg (fun g e => ⟨(RowO.lt QS.out.2.2.2.1 g e).1, (RowO.lt QS.out.2.2.2.1 g e).2.1⟩))
        have hn6 : ∀ g, Value.rowBlock (.slice ao (st.fGone.length + 1) cap) = some g → g < w.heap.size ∨ w1.heap.size + 1 ≤ g := fun g e => by
          rcases hn g e with h | h
          · exact .inl (nB QS.out.2.2.2.1 g h)
          · exact .inr (by first | exact h | (rw [sz_alloc] at h; exact h))
        have hs2 := hg.size
        rw [sz_alloc] at hs2
        have j4 : w2.cell? ⟨w.heap.size, 4, none⟩ = some (.slice a4 st.fGone.length c4) := hX2.cell 4
        have jf := hX2.frozen 4
        have HX3 : Bx (Box (w2.setCell ⟨w.heap.size, 4, none⟩ (.slice ao (st.fGone.length + 1) cap)) w.heap.size 8 68 (.agg #[.slice a0 st.fRows.length c0, .slice a1 st.fSpace.fRefs.length c1, .slice a2 st.fSpace.fLast.length c2, .int .i64 st.fTxg, .slice ao (st.fGone.length + 1) cap, .int .i64 st.fKeep, .slice a6 st.fDead.length c6, .bool st.fSame])) := ⟨hX2.putField 4 rfl⟩
        have HR3 := Bx.mk (hR2.setCell (p := ⟨w.heap.size, 4, none⟩) (show w.heap.size + 1 + 1 ≠ w.heap.size by omega) (.slice ao (st.fGone.length + 1) cap))
        have HO3 : Bx (Outside w.heap.size (w.heap.size + 1) w2 (w2.setCell ⟨w.heap.size, 4, none⟩ (.slice ao (st.fGone.length + 1) cap))) := ⟨(Outside.refl _ _ _).set (by simp) _⟩
        have RR := Bx.mk (And.intro r0 (And.intro r1 (And.intro r2 (And.intro ro r))))
        have HN := Bx.mk (And.intro hn (And.intro hn6 hO2))
        have NB := Bx.mk (And.intro (nB QS.out.1) (And.intro (nB QS.out.2.1) (And.intro (nB QS.out.2.2.1) (nB QS.out.2.2.2.2))))
        clear nB hX2 hR2 r0 r1 r2 ro r hg hn hn6 hO2
        go_wp2_with (first | (refine wpList_load_box rfl 68 _ rfl w.heap.size 8 _ _ rfl HX3.out _ Try.underlying68 rfl ?hI1 ?_) | (refine wpList_store_box rfl 68 _ _ rfl (w.heap.size + 1 + 1) 8 _ _ _ rfl rfl HR3.out (cells_store _ _ _ _ _ _ _ _ _ _ _ _ _ _ _ _ _ _) ?hI2 ?_))
        case hI1 => kernel_rfl
        case hI2 => kernel_rfl
        intro w4 hR4 hO4 hs4
        try rw [sz_set] at hs4
        go_wp2
        refine bodyPost_ret (v := .agg #[.slice a0 st.fRows.length c0, .slice a1 st.fSpace.fRefs.length c1, .slice a2 st.fSpace.fLast.length c2, .int .i64 st.fTxg, .slice ao (st.fGone.length + 1) cap, .int .i64 st.fKeep, .slice a6 st.fDead.length c6, .bool st.fSame]) (by simp [results, Try.results89, go_sem, hR4.cell 0, hR4.cell 1, hR4.cell 2, hR4.cell 3, hR4.cell 4, hR4.cell 5, hR4.cell 6, hR4.cell 7]) rfl ?_
        rw [HF.out]
        have ne : ∀ {v : Value}, (∀ g, Value.rowBlock v = some g → g < w.heap.size) → (∀ g, Value.rowBlock v = some g → g ≠ w.heap.size) ∧ (∀ g, Value.rowBlock v = some g → g ≠ w.heap.size + 1 + 1) := fun h => ⟨fun g e => by have := h g e; omega, fun g e => by have := h g e; omega⟩
        have n0 := ne NB.out.1
        have n1 := ne NB.out.2.1
        have n2 := ne NB.out.2.2.1
        have no := ne NB.out.2.2.2
        have nr : (∀ g, Value.rowBlock (.slice ao (st.fGone.length + 1) cap) = some g → g ≠ w.heap.size) ∧ (∀ g, Value.rowBlock (.slice ao (st.fGone.length + 1) cap) = some g → g ≠ w.heap.size + 1 + 1) := ⟨fun g e => by have := HN.out.2.1 g e; omega, fun g e => by have := HN.out.2.1 g e; omega⟩
        have t0 := ((RR.out.1.boxN HO3.out n0.1).boxN hO4 n0.2).mono (Nat.le_refl B) (show B1 ≤ w4.heap.size by omega)
        have t1 := ((RR.out.2.1.boxN HO3.out n1.1).boxN hO4 n1.2).mono (Nat.le_refl B) (show B1 ≤ w4.heap.size by omega)
        have t2 := ((RR.out.2.2.1.boxN HO3.out n2.1).boxN hO4 n2.2).mono (Nat.le_refl B) (show B1 ≤ w4.heap.size by omega)
        have tt := ((RR.out.2.2.2.1.boxN HO3.out no.1).boxN hO4 no.2).mono (Nat.le_refl B) (show B1 ≤ w4.heap.size by omega)
        have tr := ((RR.out.2.2.2.2.boxN HO3.out nr.1).boxN hO4 nr.2).mono (Nat.le_refl B) (show w2.heap.size ≤ w4.heap.size by omega)
        have hlt : ∀ {v : Value}, (∀ g, Value.rowBlock v = some g → g < w.heap.size) → ∀ g, Value.rowBlock v = some g → g < w1.heap.size + 1 := fun h g e => by have := h g e; omega
        exact ⟨_, rfl, own_gone_of t0 t1 t2 tr tt PS.out.1 PS.out.2.1 (Apart.grown PS.out.2.2.1 HN.out.1 (hlt NB.out.1)) PS.out.2.2.2.1 PS.out.2.2.2.2.1 (Apart.grown PS.out.2.2.2.2.2.1 HN.out.1 (hlt NB.out.2.1)) PS.out.2.2.2.2.2.2.1 (Apart.grown PS.out.2.2.2.2.2.2.2.1 HN.out.1 (hlt NB.out.2.2.1)) PS.out.2.2.2.2.2.2.2.2.1 ((Apart.grown (Apart.symm PS.out.2.2.2.2.2.2.2.2.2) HN.out.1 (hlt NB.out.2.2.2)).symm), (HN.out.2.2.box HO3.out (Nat.le_refl _)).box hO4 (by omega)⟩
      · have HF := Bx.mk (free_drop hh hk ht)
        obtain ⟨hp8, hv0, hv1⟩ := HP.out hh
        clear hh
        have y0 : w1.cell? ⟨w.heap.size + 1, 0, none⟩ = some (.int .i64 p.fAt) := HPb.out.cell 0
        have HD := Bx.mk (l7Drop_n a0 c0 a1 c1 a2 c2 _ _ _ st.fTxg a4 st.fGone.length c4 st.fKeep a6 st.fDead.length c6 st.fSame (st.fRows, st.fSpace) p B B1 w1 rfl rfl rfl HS.out.1 HS.out.2.1 HS.out.2.2 hp8 hv0 hv1 QS.out.1 QS.out.2.1 QS.out.2.2.1 PS.out.1 PS.out.2.1 PS.out.2.2.2.2.1)
        have nB : ∀ {α : Type} {enc : α → List Value} {size : Nat} {e : TypeId} {v : Value} {xs : List α}, RowO enc size e w1 B B1 v xs → ∀ g, Value.rowBlock v = some g → g < w.heap.size := fun h g e => by have := (h.lt g e).2.1; omega
        have NB := Bx.mk (And.intro (nB QS.out.1) (And.intro (nB QS.out.2.1) (And.intro (nB QS.out.2.2.1) (And.intro (nB QS.out.2.2.2.1) (nB QS.out.2.2.2.2)))))
        clear nB hp8 hv0 hv1
        go_wp2_with (refine wpList_load_box rfl 68 _ rfl w.heap.size 8 _ _ rfl HX.out _ Try.underlying68 rfl ?hI1 ?_)
        case hI1 => kernel_rfl
        refine HD.out.mono ?_
        rintro e w2 ⟨rfl, m0, m1, m2, hg⟩
        have hR2 := HR.out.all hg (all3 (fun e => by have := NB.out.1 _ e; omega) (fun e => by have := NB.out.2.1 _ e; omega) (fun e => by have := NB.out.2.2.1 _ e; omega))
        have hO2 : Outside B B1 w w2 := (Outside.of_below HB.out (Nat.le_refl _)).trans (hg.outside (all3 (fun g h => by have := QS.out.1.lt g h; omega) (fun g h => by have := QS.out.2.1.lt g h; omega) (fun g h => by have := QS.out.2.2.1.lt g h; omega)))
        have m4 := QS.out.2.2.2.1.all hg (all3 PS.out.2.2.1.symm PS.out.2.2.2.2.2.1.symm PS.out.2.2.2.2.2.2.2.1.symm)
        have m6 := QS.out.2.2.2.2.all hg (all3 PS.out.2.2.2.1.symm PS.out.2.2.2.2.2.2.1.symm PS.out.2.2.2.2.2.2.2.2.1.symm)
        have hs2 := hg.size
        have RR := Bx.mk (And.intro m0 (And.intro m1 (And.intro m2 (And.intro m4 m6))))
        have HR2 := Bx.mk hR2
        have HO2 := Bx.mk hO2
        clear m0 m1 m2 m4 m6 hg hR2 hO2
        go_wp2_with (refine wpList_store_box rfl 68 _ _ rfl (w.heap.size + 1 + 1) 8 _ _ _ rfl rfl HR2.out (cells_store _ _ _ _ _ _ _ _ _ _ _ _ _ _ _ _ _ _) ?hI2 ?_)
        case hI2 => kernel_rfl
        intro w4 hR4 hO4 hs4
        go_wp2
        refine bodyPost_ret (v := .agg #[.slice a0 st.fRows.length c0, .slice a1 st.fSpace.fRefs.length c1, .slice a2 st.fSpace.fLast.length c2, .int .i64 st.fTxg, .slice a4 st.fGone.length c4, .int .i64 st.fKeep, .slice a6 st.fDead.length c6, .bool st.fSame]) (by simp [results, Try.results89, go_sem, hR4.cell 0, hR4.cell 1, hR4.cell 2, hR4.cell 3, hR4.cell 4, hR4.cell 5, hR4.cell 6, hR4.cell 7]) rfl ?_
        rw [HF.out]
        have ne : ∀ {v : Value}, (∀ g, Value.rowBlock v = some g → g < w.heap.size) → (∀ g, Value.rowBlock v = some g → g ≠ w.heap.size + 1 + 1) := fun h g e => by have := h g e; omega
        have hle : B1 ≤ w4.heap.size := by omega
        exact ⟨_, rfl, own_drop_of ((RR.out.1.boxN hO4 (ne NB.out.1)).mono (Nat.le_refl B) hle) ((RR.out.2.1.boxN hO4 (ne NB.out.2.1)).mono (Nat.le_refl B) hle) ((RR.out.2.2.1.boxN hO4 (ne NB.out.2.2.1)).mono (Nat.le_refl B) hle) ((RR.out.2.2.2.1.boxN hO4 (ne NB.out.2.2.2.1)).mono (Nat.le_refl B) hle) ((RR.out.2.2.2.2.boxN hO4 (ne NB.out.2.2.2.2)).mono (Nat.le_refl B) hle) PS.out.1 PS.out.2.1 PS.out.2.2.1 PS.out.2.2.2.1 PS.out.2.2.2.2.1 PS.out.2.2.2.2.2.1 PS.out.2.2.2.2.2.2.1 PS.out.2.2.2.2.2.2.2.1 PS.out.2.2.2.2.2.2.2.2.1 PS.out.2.2.2.2.2.2.2.2.2, HO2.out.box hO4 (by omega)⟩
  · have HF := Bx.mk (free_hole (st := st) hh)
    clear hh
    go_wp2_with (first | (refine wpList_load_box rfl 68 _ rfl w.heap.size 8 _ _ rfl HX.out _ Try.underlying68 rfl ?hI1 ?_) | (refine wpList_store_box rfl 68 _ _ rfl (w.heap.size + 1 + 1) 8 _ _ _ rfl rfl HR.out (cells_store _ _ _ _ _ _ _ _ _ _ _ _ _ _ _ _ _ _) ?hI2 ?_))
    case hI1 => kernel_rfl
    case hI2 => kernel_rfl
    intro w4 hR4 hO4 hs4
    go_wp2
    refine bodyPost_ret (v := .agg #[.slice a0 st.fRows.length c0, .slice a1 st.fSpace.fRefs.length c1, .slice a2 st.fSpace.fLast.length c2, .int .i64 st.fTxg, .slice a4 st.fGone.length c4, .int .i64 st.fKeep, .slice a6 st.fDead.length c6, .bool st.fSame]) (by simp [results, Try.results89, go_sem, hR4.cell 0, hR4.cell 1, hR4.cell 2, hR4.cell 3, hR4.cell 4, hR4.cell 5, hR4.cell 6, hR4.cell 7]) rfl ?_
    rw [HF.out]
    exact ⟨_, rfl, (HO.out.outside hO4 (.inl (by omega))).mono (Nat.le_refl _) (by omega), (Outside.of_below HB.out (Nat.le_refl _)).box hO4 (by omega)⟩
end Go.Proofs.Ytkgmilobmbeplaa
