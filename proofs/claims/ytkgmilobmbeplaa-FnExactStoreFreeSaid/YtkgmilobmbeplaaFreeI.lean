/- The program's (*Store).free. -/
import Derived.Test.YtkgmilobmbeplaaFreeS
import Derived.Deep.RegionLaw
namespace Go.Proofs.Ytkgmilobmbeplaa
open Go.RowKit

set_option maxHeartbeats 2000000 in
set_option maxRecDepth 100000 in
theorem free_any (b : Nat) (a0 : Option Addr) (c0 : Nat) (a1 : Option Addr) (c1 : Nat) (a2 : Option Addr) (c2 : Nat) (a4 : Option Addr) (c4 : Nat) (a6 : Option Addr) (c6 : Nat) (st : StoreD) (p : PtrD) (B B1 : Nat) (w : World) (hf : st.Fit)
    (hA : Box w b 8 68 (.agg #[.slice a0 st.fRows.length c0, .slice a1 st.fSpace.fRefs.length c1, .slice a2 st.fSpace.fLast.length c2, .int .i64 st.fTxg, .slice a4 st.fGone.length c4, .int .i64 st.fKeep, .slice a6 st.fDead.length c6, .bool st.fSame])) (hbB : B1 ≤ b) (hBB : B ≤ B1)
    (q0 : RowO encS 1 9 w B B1 (.slice a0 st.fRows.length c0) st.fRows) (q1 : RowO encI 1 3 w B B1 (.slice a1 st.fSpace.fRefs.length c1) st.fSpace.fRefs) (q2 : RowO encI 1 3 w B B1 (.slice a2 st.fSpace.fLast.length c2) st.fSpace.fLast) (q4 : RowO PtrD.cells 5 78 w B B1 (.slice a4 st.fGone.length c4) st.fGone) (q6 : RowO PtrD.cells 5 78 w B B1 (.slice a6 st.fDead.length c6) st.fDead)
    (p01 : Apart (.slice a0 st.fRows.length c0) (.slice a1 st.fSpace.fRefs.length c1)) (p02 : Apart (.slice a0 st.fRows.length c0) (.slice a2 st.fSpace.fLast.length c2)) (p04 : Apart (.slice a0 st.fRows.length c0) (.slice a4 st.fGone.length c4)) (p06 : Apart (.slice a0 st.fRows.length c0) (.slice a6 st.fDead.length c6))
    (p12 : Apart (.slice a1 st.fSpace.fRefs.length c1) (.slice a2 st.fSpace.fLast.length c2)) (p14 : Apart (.slice a1 st.fSpace.fRefs.length c1) (.slice a4 st.fGone.length c4)) (p16 : Apart (.slice a1 st.fSpace.fRefs.length c1) (.slice a6 st.fDead.length c6)) (p24 : Apart (.slice a2 st.fSpace.fLast.length c2) (.slice a4 st.fGone.length c4)) (p26 : Apart (.slice a2 st.fSpace.fLast.length c2) (.slice a6 st.fDead.length c6)) (p46 : Apart (.slice a4 st.fGone.length c4) (.slice a6 st.fDead.length c6))
    (h0 : st.fRows.length = 64) (h1 : st.fSpace.fRefs.length = 64) (h2 : st.fSpace.fLast.length = 64)
    (hp : p.hole = false → (8 ≤ p.fAt ∧ p.fAt ≤ 63) ∧ 1 ≤ st.fSpace.fRefs.getD p.fAt.toNat 0 ∧ st.fSpace.fRefs.getD p.fAt.toNat 0 ≤ 1000000) :
    Calls Try.prog 92 #[.pointer (some ⟨b, 0, none⟩), .agg #[.int .i64 p.fAt, .int .i64 p.fBirth, .int .i64 p.fSize, .int .i64 p.fSum, .int .i64 p.fLevel]] w fun e w' => e = .returned (.tuple #[]) ∧ ∃ v', Box w' b 8 68 v' ∧ StoreD.Own w' B w'.heap.size v' (st.free p) ∧ Outside B (b + 1) w w' := by
  have hbw := hA.lt
  have HA := Bx.mk hA
  have QS := Bx.mk (And.intro q0 (And.intro q1 (And.intro q2 (And.intro q4 q6))))
  have PS := Bx.mk (And.intro p01 (And.intro p02 (And.intro p04 (And.intro p06 (And.intro p12 (And.intro p14 (And.intro p16 (And.intro p24 (And.intro p26 p46)))))))))
  obtain ⟨ip, hip, hp0, hp1, hp2⟩ := info_parts Try.infoPtrS
  have HS := Bx.mk (And.intro h0 (And.intro h1 h2))
  have HP := Bx.mk hp
  have hf4 := hf.f4
  have hf6 := hf.f6
  have HPb := Bx.mk (Box.new w [.int .i64 p.fAt, .int .i64 p.fBirth, .int .i64 p.fSize, .int .i64 p.fSum, .int .i64 p.fLevel] 78 rfl rfl)
  have HB : Bx (Below w.heap.size w (w.alloc (.cells #[.int .i64 p.fAt, .int .i64 p.fBirth, .int .i64 p.fSize, .int .i64 p.fSum, .int .i64 p.fLevel] 78))) := ⟨(Below.refl _ _).alloc (Nat.le_refl _) _⟩
  replace HA := Bx.mk (HA.out.below HB.out (Nat.le_refl _))
  clear hA q0 q1 q2 q4 q6 p01 p02 p04 p06 p12 p14 p16 p24 p26 p46 h0 h1 h2 hp
  go_enter Try.func92, Try.ntmps92
  go_wp2_with fail
  refine (implHole_any p _).mono ?_
  rintro e w1 ⟨rfl, b1⟩
  replace HA := Bx.mk (HA.out.below b1 (Nat.le_refl _))
  replace HPb := Bx.mk (HPb.out.below b1 (Nat.le_refl _))
  replace HB := Bx.mk (HB.out.trans (b1.mono HB.out.size))
  replace QS := Bx.mk (And.intro (QS.out.1.below HB.out (Nat.le_refl _)) (And.intro (QS.out.2.1.below HB.out (Nat.le_refl _)) (And.intro (QS.out.2.2.1.below HB.out (Nat.le_refl _)) (And.intro (QS.out.2.2.2.1.below HB.out (Nat.le_refl _)) (QS.out.2.2.2.2.below HB.out (Nat.le_refl _))))))
  have hw1 : w.heap.size < w1.heap.size := HPb.out.lt
  have y1 : w1.cell? ⟨w.heap.size, 1, none⟩ = some (.int .i64 p.fBirth) := HPb.out.cell 1
  have x5 : w1.cell? ⟨b, 5, none⟩ = some (.int .i64 st.fKeep) := HA.out.cell 5
  clear b1
  cases hh : p.hole
  · have HH := Bx.mk hh
    by_cases hk : p.fBirth ≤ st.fKeep
    · have HF := Bx.mk (free_dead (st := st) hh hk)
      clear hh
      go_wp2_with fail
      go_quiet (fail)
      have bd : Below w1.heap.size w1 (w1.drewN nq) := below_drewN _ _ _
      replace HA := Bx.mk (HA.out.below bd (Nat.le_refl _))
      replace HPb := Bx.mk (HPb.out.below bd (Nat.le_refl _))
      replace HB := Bx.mk (HB.out.trans (bd.mono HB.out.size))
      replace QS := Bx.mk (And.intro (QS.out.1.below bd (Nat.le_refl _)) (And.intro (QS.out.2.1.below bd (Nat.le_refl _)) (And.intro (QS.out.2.2.1.below bd (Nat.le_refl _)) (And.intro (QS.out.2.2.2.1.below bd (Nat.le_refl _)) (QS.out.2.2.2.2.below bd (Nat.le_refl _))))))
      have hszwa := bd.size
      clear bd y1
      clear x5
      generalize w1.drewN nq = wa at *
      have k0 : wa.cell? ⟨w.heap.size, 0, none⟩ = some (.int .i64 p.fAt) := HPb.out.cell 0
      have k1 : wa.cell? ⟨w.heap.size, 1, none⟩ = some (.int .i64 p.fBirth) := HPb.out.cell 1
      have k2 : wa.cell? ⟨w.heap.size, 2, none⟩ = some (.int .i64 p.fSize) := HPb.out.cell 2
      have k3 : wa.cell? ⟨w.heap.size, 3, none⟩ = some (.int .i64 p.fSum) := HPb.out.cell 3
      have k4 : wa.cell? ⟨w.heap.size, 4, none⟩ = some (.int .i64 p.fLevel) := HPb.out.cell 4
      have kx : wa.cell? ⟨b, 6, none⟩ = some (.slice a6 st.fDead.length c6) := HA.out.cell 6
      have kf := HA.out.frozen 6
      have nB : ∀ {α : Type} {enc : α → List Value} {size : Nat} {e : TypeId} {v : Value} {xs : List α}, RowO enc size e wa B B1 v xs → ∀ g, Value.rowBlock v = some g → g < b := fun h g e => by have := (h.lt g e).2.1; omega
      have NB := Bx.mk (And.intro (nB QS.out.1) (And.intro (nB QS.out.2.1) (And.intro (nB QS.out.2.2.1) (And.intro (nB QS.out.2.2.2.1) (nB QS.out.2.2.2.2)))))
      clear nB
      have ALd : Bx (Below wa.heap.size wa ((wa.alloc (.cells #[.int .i64 p.fAt, .int .i64 p.fBirth, .int .i64 p.fSize, .int .i64 p.fSum, .int .i64 p.fLevel] 78)).drew)) := ⟨((Below.refl _ _).alloc (Nat.le_refl _) _).drew⟩
      have HNB : Bx (((wa.alloc (.cells #[.int .i64 p.fAt, .int .i64 p.fBirth, .int .i64 p.fSize, .int .i64 p.fSum, .int .i64 p.fLevel] 78)).drew).heap[wa.heap.size]? = some (.cells #[.int .i64 p.fAt, .int .i64 p.fBirth, .int .i64 p.fSize, .int .i64 p.fSum, .int .i64 p.fLevel] 78 (0, 0))) := ⟨blk_new wa _ _ rfl⟩
      have hszB : B ≤ ((wa.alloc (.cells #[.int .i64 p.fAt, .int .i64 p.fBirth, .int .i64 p.fSize, .int .i64 p.fSum, .int .i64 p.fLevel] 78)).drew).heap.size := by show B ≤ (wa.alloc (.cells #[.int .i64 p.fAt, .int .i64 p.fBirth, .int .i64 p.fSize, .int .i64 p.fSum, .int .i64 p.fLevel] 78)).heap.size; rw [sz_alloc]; omega
      have hbc : b < wa.heap.size := HA.out.lt
      have hbc2 : b ≠ wa.heap.size := by omega
      have hwc : w.heap.size ≠ wa.heap.size := by omega
      go_wp2_with fail
      go_region_law ((refine step_app1 (by rfl) (.tmp 23) (.tmp 25) 66 (by rfl) 78 ip _ 5 40 Try.underlying66 hip hp0 hp1 hp2 rfl (by decide) PtrD.cells_len _ _ (by rfl) (RowO.below QS.out.2.2.2.2 ALd.out (Nat.le_refl _)) hszB ⟨wa.heap.size, 0, none⟩ 1 (by rfl) p (World.news_of_block HNB.out) (cells_ptr p) (by unfold maxLen; omega) (by omega) ?_; intro ao cap w2 r hg hn; have HX2 := Bx.mk ((HA.out.below ALd.out (Nat.le_refl _)).grown hg (fun e => Nat.lt_irrefl _ (NB.out.2.2.2.2 _ e.symm))); have HP2 := Bx.mk ((HPb.out.below ALd.out (Nat.le_refl _)).grown hg (fun e => by have := NB.out.2.2.2.2 _ e.symm; omega)); have KE := Bx.mk (And.intro (HP2.out.cell 0) (And.intro (HP2.out.cell 1) (And.intro (HP2.out.cell 2) (And.intro (HP2.out.cell 3) (HP2.out.cell 4))))); have HP3 := Bx.mk (HP2.out.setCell (p := ⟨b, 6, none⟩) (show w.heap.size ≠ b by omega) (.slice ao (st.fDead.length + 1) cap)); have KF := Bx.mk (And.intro (HP3.out.cell 0) (And.intro (HP3.out.cell 1) (And.intro (HP3.out.cell 2) (And.intro (HP3.out.cell 3) (HP3.out.cell 4))))); have j := HX2.out.cell 6; have jf := HX2.out.frozen 6; have RR := Bx.mk r; have HG := Bx.mk hg; have HN := Bx.mk hn; clear r hg hn))
      all_goals
        clear k0 k1 k2 k3 k4 kx kf KE KF HP2 HP3 j jf
        go_wp2
        go_end0
        have hs2 := HG.out.size
        rw [HF.out]
        have hn6 : ∀ g, Value.rowBlock (.slice ao (st.fDead.length + 1) cap) = some g → g < b ∨ wa.heap.size + 1 ≤ g := fun g e => by
          rcases HN.out g e with h | h
          · exact .inl (NB.out.2.2.2.2 g h)
          · exact .inr (by have h : (wa.alloc (.cells #[.int .i64 p.fAt, .int .i64 p.fBirth, .int .i64 p.fSize, .int .i64 p.fSum, .int .i64 p.fLevel] 78)).heap.size ≤ g := h; rw [sz_alloc] at h; exact h)
        have hs3 : wa.heap.size + 1 ≤ w2.heap.size := by have h : (wa.alloc (.cells #[.int .i64 p.fAt, .int .i64 p.fBirth, .int .i64 p.fSize, .int .i64 p.fSum, .int .i64 p.fLevel] 78)).heap.size ≤ w2.heap.size := hs2; rw [sz_alloc] at h; exact h
        have ne : ∀ {v : Value}, (∀ g, Value.rowBlock v = some g → g < b) → ∀ g, Value.rowBlock v = some g → g ≠ b := fun h g e => by have := h g e; omega
        have nr : ∀ g, Value.rowBlock (.slice ao (st.fDead.length + 1) cap) = some g → g ≠ b := fun g e => by have := hn6 g e; omega
        have hlt : ∀ {v : Value}, (∀ g, Value.rowBlock v = some g → g < b) → ∀ g, Value.rowBlock v = some g → g < (wa.alloc (.cells #[.int .i64 p.fAt, .int .i64 p.fBirth, .int .i64 p.fSize, .int .i64 p.fSum, .int .i64 p.fLevel] 78)).drew.heap.size := fun h g e => by have := h g e; show g < (wa.alloc (.cells #[.int .i64 p.fAt, .int .i64 p.fBirth, .int .i64 p.fSize, .int .i64 p.fSum, .int .i64 p.fLevel] 78)).heap.size; rw [sz_alloc]; omega
        have hO3 : Outside b (b + 1) w2 (w2.setCell ⟨b, 6, none⟩ (.slice ao (st.fDead.length + 1) cap)) := (Outside.refl _ _ _).set (by simp) _
        have hle : ∀ n, n ≤ w2.heap.size → n ≤ (w2.setCell ⟨b, 6, none⟩ (.slice ao (st.fDead.length + 1) cap)).heap.size := fun n h => by rw [sz_set]; exact h
        refine ⟨rfl, _, HX2.out.putField 6 (u := .slice ao (st.fDead.length + 1) cap) rfl, own_dead_of ((((RowO.below QS.out.1 ALd.out (Nat.le_refl _)).grown HG.out PS.out.2.2.2.1).boxN hO3 (ne NB.out.1)).mono (Nat.le_refl B) (hle B1 (by omega))) ((((RowO.below QS.out.2.1 ALd.out (Nat.le_refl _)).grown HG.out PS.out.2.2.2.2.2.2.1).boxN hO3 (ne NB.out.2.1)).mono (Nat.le_refl B) (hle B1 (by omega))) ((((RowO.below QS.out.2.2.1 ALd.out (Nat.le_refl _)).grown HG.out PS.out.2.2.2.2.2.2.2.2.1).boxN hO3 (ne NB.out.2.2.1)).mono (Nat.le_refl B) (hle B1 (by omega))) ((((RowO.below QS.out.2.2.2.1 ALd.out (Nat.le_refl _)).grown HG.out PS.out.2.2.2.2.2.2.2.2.2).boxN hO3 (ne NB.out.2.2.2.1)).mono (Nat.le_refl B) (hle B1 (by omega))) ((RR.out.boxN hO3 nr).mono (Nat.le_refl B) (hle _ (Nat.le_refl _))) PS.out.1 PS.out.2.1 PS.out.2.2.1 (Apart.grown PS.out.2.2.2.1 HN.out (hlt NB.out.1)) PS.out.2.2.2.2.1 PS.out.2.2.2.2.2.1 (Apart.grown PS.out.2.2.2.2.2.2.1 HN.out (hlt NB.out.2.1)) PS.out.2.2.2.2.2.2.2.1 (Apart.grown PS.out.2.2.2.2.2.2.2.2.1 HN.out (hlt NB.out.2.2.1)) (Apart.grown PS.out.2.2.2.2.2.2.2.2.2 HN.out (hlt NB.out.2.2.2.1)), ?_⟩
        exact ((((Outside.of_below HB.out (Nat.le_refl _)).trans (Outside.of_below ALd.out (Nat.le_refl _))).trans (Outside.of_row HG.out (fun g e => ⟨(RowO.lt QS.out.2.2.2.2 g e).1, by have := (RowO.lt QS.out.2.2.2.2 g e).2.1; omega⟩)))).trans (hO3.mono (by omega) (Nat.le_refl _))
      
    · have x3 : w1.cell? ⟨b, 3, none⟩ = some (.int .i64 st.fTxg) := HA.out.cell 3
      go_wp2_with fail
      go_quiet (fail)
      have bd : Below w1.heap.size w1 (w1.drewN nq) := below_drewN _ _ _
      replace HA := Bx.mk (HA.out.below bd (Nat.le_refl _))
      replace HPb := Bx.mk (HPb.out.below bd (Nat.le_refl _))
      replace HB := Bx.mk (HB.out.trans (bd.mono HB.out.size))
      replace QS := Bx.mk (And.intro (QS.out.1.below bd (Nat.le_refl _)) (And.intro (QS.out.2.1.below bd (Nat.le_refl _)) (And.intro (QS.out.2.2.1.below bd (Nat.le_refl _)) (And.intro (QS.out.2.2.2.1.below bd (Nat.le_refl _)) (QS.out.2.2.2.2.below bd (Nat.le_refl _))))))
      have hszwa := bd.size
      clear bd y1 x3 x5
      generalize w1.drewN nq = wa at *
      have y1 : wa.cell? ⟨w.heap.size, 1, none⟩ = some (.int .i64 p.fBirth) := HPb.out.cell 1
      have x3 : wa.cell? ⟨b, 3, none⟩ = some (.int .i64 st.fTxg) := HA.out.cell 3
      by_cases ht : p.fBirth < st.fTxg
      · have HF := Bx.mk (free_gone (st := st) hh (by omega) (by omega))
        clear hh
        go_wp2_with fail
        go_quiet (fail)
        have bd : Below wa.heap.size wa (wa.drewN nq) := below_drewN _ _ _
        replace HA := Bx.mk (HA.out.below bd (Nat.le_refl _))
        replace HPb := Bx.mk (HPb.out.below bd (Nat.le_refl _))
        replace HB := Bx.mk (HB.out.trans (bd.mono HB.out.size))
        replace QS := Bx.mk (And.intro (QS.out.1.below bd (Nat.le_refl _)) (And.intro (QS.out.2.1.below bd (Nat.le_refl _)) (And.intro (QS.out.2.2.1.below bd (Nat.le_refl _)) (And.intro (QS.out.2.2.2.1.below bd (Nat.le_refl _)) (QS.out.2.2.2.2.below bd (Nat.le_refl _))))))
        have hszwb := bd.size
        clear bd y1 x3
        generalize wa.drewN nq = wb at *
        have k0 : wb.cell? ⟨w.heap.size, 0, none⟩ = some (.int .i64 p.fAt) := HPb.out.cell 0
        have k1 : wb.cell? ⟨w.heap.size, 1, none⟩ = some (.int .i64 p.fBirth) := HPb.out.cell 1
        have k2 : wb.cell? ⟨w.heap.size, 2, none⟩ = some (.int .i64 p.fSize) := HPb.out.cell 2
        have k3 : wb.cell? ⟨w.heap.size, 3, none⟩ = some (.int .i64 p.fSum) := HPb.out.cell 3
        have k4 : wb.cell? ⟨w.heap.size, 4, none⟩ = some (.int .i64 p.fLevel) := HPb.out.cell 4
        have kx : wb.cell? ⟨b, 4, none⟩ = some (.slice a4 st.fGone.length c4) := HA.out.cell 4
        have kf := HA.out.frozen 4
        have nB : ∀ {α : Type} {enc : α → List Value} {size : Nat} {e : TypeId} {v : Value} {xs : List α}, RowO enc size e wb B B1 v xs → ∀ g, Value.rowBlock v = some g → g < b := fun h g e => by have := (h.lt g e).2.1; omega
        have NB := Bx.mk (And.intro (nB QS.out.1) (And.intro (nB QS.out.2.1) (And.intro (nB QS.out.2.2.1) (And.intro (nB QS.out.2.2.2.2) (nB QS.out.2.2.2.1)))))
        clear nB
        have ALd : Bx (Below wb.heap.size wb ((wb.alloc (.cells #[.int .i64 p.fAt, .int .i64 p.fBirth, .int .i64 p.fSize, .int .i64 p.fSum, .int .i64 p.fLevel] 78)).drew)) := ⟨((Below.refl _ _).alloc (Nat.le_refl _) _).drew⟩
        have HNB : Bx (((wb.alloc (.cells #[.int .i64 p.fAt, .int .i64 p.fBirth, .int .i64 p.fSize, .int .i64 p.fSum, .int .i64 p.fLevel] 78)).drew).heap[wb.heap.size]? = some (.cells #[.int .i64 p.fAt, .int .i64 p.fBirth, .int .i64 p.fSize, .int .i64 p.fSum, .int .i64 p.fLevel] 78 (0, 0))) := ⟨blk_new wb _ _ rfl⟩
        have hszB : B ≤ ((wb.alloc (.cells #[.int .i64 p.fAt, .int .i64 p.fBirth, .int .i64 p.fSize, .int .i64 p.fSum, .int .i64 p.fLevel] 78)).drew).heap.size := by show B ≤ (wb.alloc (.cells #[.int .i64 p.fAt, .int .i64 p.fBirth, .int .i64 p.fSize, .int .i64 p.fSum, .int .i64 p.fLevel] 78)).heap.size; rw [sz_alloc]; omega
        have hbc : b < wb.heap.size := HA.out.lt
        have hbc2 : b ≠ wb.heap.size := by omega
        have hwc : w.heap.size ≠ wb.heap.size := by omega
        go_wp2_with fail
        go_region_law ((refine step_app1 (by rfl) (.tmp 41) (.tmp 43) 66 (by rfl) 78 ip _ 5 40 Try.underlying66 hip hp0 hp1 hp2 rfl (by decide) PtrD.cells_len _ _ (by rfl) (RowO.below QS.out.2.2.2.1 ALd.out (Nat.le_refl _)) hszB ⟨wb.heap.size, 0, none⟩ 1 (by rfl) p (World.news_of_block HNB.out) (cells_ptr p) (by unfold maxLen; omega) (by omega) ?_; intro ao cap w2 r hg hn; have HX2 := Bx.mk ((HA.out.below ALd.out (Nat.le_refl _)).grown hg (fun e => Nat.lt_irrefl _ (NB.out.2.2.2.2 _ e.symm))); have HP2 := Bx.mk ((HPb.out.below ALd.out (Nat.le_refl _)).grown hg (fun e => by have := NB.out.2.2.2.2 _ e.symm; omega)); have KE := Bx.mk (And.intro (HP2.out.cell 0) (And.intro (HP2.out.cell 1) (And.intro (HP2.out.cell 2) (And.intro (HP2.out.cell 3) (HP2.out.cell 4))))); have HP3 := Bx.mk (HP2.out.setCell (p := ⟨b, 4, none⟩) (show w.heap.size ≠ b by omega) (.slice ao (st.fGone.length + 1) cap)); have KF := Bx.mk (And.intro (HP3.out.cell 0) (And.intro (HP3.out.cell 1) (And.intro (HP3.out.cell 2) (And.intro (HP3.out.cell 3) (HP3.out.cell 4))))); have j := HX2.out.cell 4; have jf := HX2.out.frozen 4; have RR := Bx.mk r; have HG := Bx.mk hg; have HN := Bx.mk hn; clear r hg hn))
        all_goals
          clear k0 k1 k2 k3 k4 kx kf KE KF HP2 HP3 j jf
          go_wp2
          go_end0
          have hs2 := HG.out.size
          rw [HF.out]
          have hn6 : ∀ g, Value.rowBlock (.slice ao (st.fGone.length + 1) cap) = some g → g < b ∨ wb.heap.size + 1 ≤ g := fun g e => by
            rcases HN.out g e with h | h
            · exact .inl (NB.out.2.2.2.2 g h)
            · exact .inr (by have h : (wb.alloc (.cells #[.int .i64 p.fAt, .int .i64 p.fBirth, .int .i64 p.fSize, .int .i64 p.fSum, .int .i64 p.fLevel] 78)).heap.size ≤ g := h; rw [sz_alloc] at h; exact h)
          have hs3 : wb.heap.size + 1 ≤ w2.heap.size := by have h : (wb.alloc (.cells #[.int .i64 p.fAt, .int .i64 p.fBirth, .int .i64 p.fSize, .int .i64 p.fSum, .int .i64 p.fLevel] 78)).heap.size ≤ w2.heap.size := hs2; rw [sz_alloc] at h; exact h
          have ne : ∀ {v : Value}, (∀ g, Value.rowBlock v = some g → g < b) → ∀ g, Value.rowBlock v = some g → g ≠ b := fun h g e => by have := h g e; omega
          have nr : ∀ g, Value.rowBlock (.slice ao (st.fGone.length + 1) cap) = some g → g ≠ b := fun g e => by have := hn6 g e; omega
          have hlt : ∀ {v : Value}, (∀ g, Value.rowBlock v = some g → g < b) → ∀ g, Value.rowBlock v = some g → g < (wb.alloc (.cells #[.int .i64 p.fAt, .int .i64 p.fBirth, .int .i64 p.fSize, .int .i64 p.fSum, .int .i64 p.fLevel] 78)).drew.heap.size := fun h g e => by have := h g e; show g < (wb.alloc (.cells #[.int .i64 p.fAt, .int .i64 p.fBirth, .int .i64 p.fSize, .int .i64 p.fSum, .int .i64 p.fLevel] 78)).heap.size; rw [sz_alloc]; omega
          have hO3 : Outside b (b + 1) w2 (w2.setCell ⟨b, 4, none⟩ (.slice ao (st.fGone.length + 1) cap)) := (Outside.refl _ _ _).set (by simp) _
          have hle : ∀ n, n ≤ w2.heap.size → n ≤ (w2.setCell ⟨b, 4, none⟩ (.slice ao (st.fGone.length + 1) cap)).heap.size := fun n h => by rw [sz_set]; exact h
          refine ⟨rfl, _, HX2.out.putField 4 (u := .slice ao (st.fGone.length + 1) cap) rfl, own_gone_of ((((RowO.below QS.out.1 ALd.out (Nat.le_refl _)).grown HG.out PS.out.2.2.1).boxN hO3 (ne NB.out.1)).mono (Nat.le_refl B) (hle B1 (by omega))) ((((RowO.below QS.out.2.1 ALd.out (Nat.le_refl _)).grown HG.out PS.out.2.2.2.2.2.1).boxN hO3 (ne NB.out.2.1)).mono (Nat.le_refl B) (hle B1 (by omega))) ((((RowO.below QS.out.2.2.1 ALd.out (Nat.le_refl _)).grown HG.out PS.out.2.2.2.2.2.2.2.1).boxN hO3 (ne NB.out.2.2.1)).mono (Nat.le_refl B) (hle B1 (by omega))) ((RR.out.boxN hO3 nr).mono (Nat.le_refl B) (hle _ (Nat.le_refl _))) ((((RowO.below QS.out.2.2.2.2 ALd.out (Nat.le_refl _)).grown HG.out (Apart.symm PS.out.2.2.2.2.2.2.2.2.2)).boxN hO3 (ne NB.out.2.2.2.1)).mono (Nat.le_refl B) (hle B1 (by omega))) PS.out.1 PS.out.2.1 (Apart.grown PS.out.2.2.1 HN.out (hlt NB.out.1)) PS.out.2.2.2.1 PS.out.2.2.2.2.1 (Apart.grown PS.out.2.2.2.2.2.1 HN.out (hlt NB.out.2.1)) PS.out.2.2.2.2.2.2.1 (Apart.grown PS.out.2.2.2.2.2.2.2.1 HN.out (hlt NB.out.2.2.1)) PS.out.2.2.2.2.2.2.2.2.1 (Apart.grown (Apart.symm PS.out.2.2.2.2.2.2.2.2.2) HN.out (hlt NB.out.2.2.2.1)).symm, ?_⟩
          exact ((((Outside.of_below HB.out (Nat.le_refl _)).trans (Outside.of_below ALd.out (Nat.le_refl _))).trans (Outside.of_row HG.out (fun g e => ⟨(RowO.lt QS.out.2.2.2.1 g e).1, by have := (RowO.lt QS.out.2.2.2.1 g e).2.1; omega⟩)))).trans (hO3.mono (by omega) (Nat.le_refl _))
        
      · have HF := Bx.mk (free_drop (st := st) hh (by omega) (by omega))
        obtain ⟨hp8, hv0, hv1⟩ := HP.out hh
        clear hh
        go_wp2_with fail
        go_quiet (fail)
        have bd : Below wa.heap.size wa (wa.drewN nq) := below_drewN _ _ _
        replace HA := Bx.mk (HA.out.below bd (Nat.le_refl _))
        replace HPb := Bx.mk (HPb.out.below bd (Nat.le_refl _))
        replace HB := Bx.mk (HB.out.trans (bd.mono HB.out.size))
        replace QS := Bx.mk (And.intro (QS.out.1.below bd (Nat.le_refl _)) (And.intro (QS.out.2.1.below bd (Nat.le_refl _)) (And.intro (QS.out.2.2.1.below bd (Nat.le_refl _)) (And.intro (QS.out.2.2.2.1.below bd (Nat.le_refl _)) (QS.out.2.2.2.2.below bd (Nat.le_refl _))))))
        have hszwb := bd.size
        clear bd y1 x3
        generalize wa.drewN nq = wb at *
        have y0 : wb.cell? ⟨w.heap.size, 0, none⟩ = some (.int .i64 p.fAt) := HPb.out.cell 0
        have HD := Bx.mk (drop_n b a0 c0 a1 c1 a2 c2 _ _ _ (st.fRows, st.fSpace) p B B1 wb rfl rfl rfl HS.out.1 HS.out.2.1 HS.out.2.2 hp8 hv0 hv1 (HA.out.cell 0) (HA.out.cell 1) (HA.out.cell 2) hbB HA.out.lt QS.out.1 QS.out.2.1 QS.out.2.2.1 PS.out.1 PS.out.2.1 PS.out.2.2.2.2.1)
        clear hp8 hv0 hv1
        go_wp2_with fail
        refine HD.out.mono ?_
        rintro e w2 ⟨rfl, m0, m1, m2, hg⟩
        have hA2 := HA.out.all hg (all3 (fun e => by have := (QS.out.1.lt _ e).2.1; omega) (fun e => by have := (QS.out.2.1.lt _ e).2.1; omega) (fun e => by have := (QS.out.2.2.1.lt _ e).2.1; omega))
        have hO2 : Outside B (b + 1) w w2 := (Outside.of_below HB.out (Nat.le_refl _)).trans (hg.outside (all3 (fun g h => by have := QS.out.1.lt g h; omega) (fun g h => by have := QS.out.2.1.lt g h; omega) (fun g h => by have := QS.out.2.2.1.lt g h; omega)))
        have m4 := QS.out.2.2.2.1.all hg (all3 PS.out.2.2.1.symm PS.out.2.2.2.2.2.1.symm PS.out.2.2.2.2.2.2.2.1.symm)
        have m6 := QS.out.2.2.2.2.all hg (all3 PS.out.2.2.2.1.symm PS.out.2.2.2.2.2.2.1.symm PS.out.2.2.2.2.2.2.2.2.1.symm)
        have hs2 := hg.size
        have hle : B1 ≤ w2.heap.size := by have := HA.out.lt; omega
        have RR := Bx.mk (And.intro (m0.mono (Nat.le_refl B) hle) (And.intro (m1.mono (Nat.le_refl B) hle) (And.intro (m2.mono (Nat.le_refl B) hle) (And.intro (m4.mono (Nat.le_refl B) hle) (m6.mono (Nat.le_refl B) hle)))))
        have HA2 := Bx.mk hA2
        have HO2 := Bx.mk hO2
        clear m0 m1 m2 m4 m6 hg hA2 hO2 y0
        go_wp2
        go_end0
        rw [HF.out]
        exact ⟨rfl, _, HA2.out, own_drop_of RR.out.1 RR.out.2.1 RR.out.2.2.1 RR.out.2.2.2.1 RR.out.2.2.2.2 PS.out.1 PS.out.2.1 PS.out.2.2.1 PS.out.2.2.2.1 PS.out.2.2.2.2.1 PS.out.2.2.2.2.2.1 PS.out.2.2.2.2.2.2.1 PS.out.2.2.2.2.2.2.2.1 PS.out.2.2.2.2.2.2.2.2.1 PS.out.2.2.2.2.2.2.2.2.2, HO2.out⟩
  · have HF := Bx.mk (free_hole (st := st) hh)
    clear hh
    go_wp2
    go_end0
    rw [HF.out]
    have hle : B1 ≤ w1.heap.size := by have := HA.out.lt; omega
    exact ⟨rfl, _, HA.out, ⟨a0, c0, a1, c1, a2, c2, a4, c4, a6, c6, rfl, QS.out.1.mono (Nat.le_refl B) hle, QS.out.2.1.mono (Nat.le_refl B) hle, QS.out.2.2.1.mono (Nat.le_refl B) hle, QS.out.2.2.2.1.mono (Nat.le_refl B) hle, QS.out.2.2.2.2.mono (Nat.le_refl B) hle, PS.out⟩, Outside.of_below HB.out (Nat.le_refl _)⟩
end Go.Proofs.Ytkgmilobmbeplaa
