/- The reference's StoreNext. -/
import Derived.Test.YtkgmilobmbeplaaNextS
import Derived.Test.YtkgmilobmbeplaaStoreM
namespace Go.Proofs.Ytkgmilobmbeplaa
open Go.RowKit

theorem specStoreOk_any (v : Value) (st : StoreD) (w : World) (hr : StoreD.Reads w v st) (hf : st.Fit) (hi : -9223372036854775808 ≤ st.fTxg) :
    Calls Try.prog 69 #[v] w fun e w' => e = .returned (.bool st.ok) ∧ Below w.heap.size w w' := by
  cases h : (st.fRows.length == 64 && (st.fSpace.ok && (inB st.fTxg 1 900 && inB st.fKeep 0 (st.fTxg - 1))))
  · have : st.ok = false := by
      unfold StoreD.ok
      simp only [Bool.and_eq_false_iff] at h ⊢
      rcases h with h | h | h | h <;> simp [h]
    rw [this]
    exact specStoreOk_no v st w hr hf hi h
  · simp only [Bool.and_eq_true, beq_iff_eq] at h
    exact specStoreOk_yes v st w hr hf h.1 h.2.1 h.2.2.1 h.2.2.2

theorem cells_zero : Cells 8 (.agg #[.slice none 0 0, .slice none 0 0, .slice none 0 0, .int .i64 0, .slice none 0 0, .int .i64 0, .slice none 0 0, .bool false]) :=
  ⟨[.slice none 0 0, .slice none 0 0, .slice none 0 0, .int .i64 0, .slice none 0 0, .int .i64 0, .slice none 0 0, .bool false], rfl, rfl, fun u hu => List.all_eq_true.1 (show List.all _ (fun u => u.oneCell') = true from rfl) u hu⟩
theorem cells_store (a0 : Option Addr) (n0 c0 : Nat) (a1 : Option Addr) (n1 c1 : Nat) (a2 : Option Addr) (n2 c2 : Nat) (t : Int) (a4 : Option Addr) (n4 c4 : Nat) (k : Int) (a6 : Option Addr) (n6 c6 : Nat) (s : Bool) : Cells 8 (.agg #[.slice a0 n0 c0, .slice a1 n1 c1, .slice a2 n2 c2, .int .i64 t, .slice a4 n4 c4, .int .i64 k, .slice a6 n6 c6, .bool s]) :=
  ⟨[.slice a0 n0 c0, .slice a1 n1 c1, .slice a2 n2 c2, .int .i64 t, .slice a4 n4 c4, .int .i64 k, .slice a6 n6 c6, .bool s], rfl, rfl, fun u hu => List.all_eq_true.1 (show List.all _ (fun u => u.oneCell') = true from rfl) u hu⟩

theorem StoreD.Own.cells {w : World} {B B1 : Nat} {v : Value} {x : StoreD} (h : StoreD.Own w B B1 v x) : Cells 8 v := by
  obtain ⟨a0, c0, a1, c1, a2, c2, a4, c4, a6, c6, rfl, _⟩ := h
  exact cells_store _ _ _ _ _ _ _ _ _ _ _ _ _ _ _ _ _ _
theorem past_pos (x : StoreD) : 0 < x.past 1 := by unfold StoreD.past; omega

set_option maxHeartbeats 1000000 in
set_option maxRecDepth 100000 in
theorem specStoreNext_any (v : Value) (st : StoreD) (B B1 : Nat) (w : World) (hf : st.Fit) (hi : -9223372036854775808 ≤ st.fTxg) (ho : StoreD.Own w B B1 v st) :
    Calls Try.prog 32 #[v] w fun e w' => ∃ v', e = .returned (.tuple #[v', .bool st.mayNext]) ∧ StoreD.Own w' w.heap.size w'.heap.size v' st.stepped ∧ Below w.heap.size w w' := by
  have HO := Bx.mk ho
  have HRd := Bx.mk ho.rd
  obtain ⟨a0, c0, a1, c1, a2, c2, a4, c4, a6, c6, rfl, _⟩ := ho
  have HX := Bx.mk ((Box.new w [.slice a0 st.fRows.length c0, .slice a1 st.fSpace.fRefs.length c1, .slice a2 st.fSpace.fLast.length c2, .int .i64 st.fTxg, .slice a4 st.fGone.length c4, .int .i64 st.fKeep, .slice a6 st.fDead.length c6, .bool st.fSame] 68 rfl rfl).alloc (.cells #[.slice none 0 0, .slice none 0 0, .slice none 0 0, .int .i64 0, .slice none 0 0, .int .i64 0, .slice none 0 0, .bool false] 68))
  have HR := Bx.mk (Box.new (w.alloc (.cells #[.slice a0 st.fRows.length c0, .slice a1 st.fSpace.fRefs.length c1, .slice a2 st.fSpace.fLast.length c2, .int .i64 st.fTxg, .slice a4 st.fGone.length c4, .int .i64 st.fKeep, .slice a6 st.fDead.length c6, .bool st.fSame] 68)) [.slice none 0 0, .slice none 0 0, .slice none 0 0, .int .i64 0, .slice none 0 0, .int .i64 0, .slice none 0 0, .bool false] 68 rfl (sz_alloc _ _).symm)
  have HB : Bx (Below w.heap.size w ((w.alloc (.cells #[.slice a0 st.fRows.length c0, .slice a1 st.fSpace.fRefs.length c1, .slice a2 st.fSpace.fLast.length c2, .int .i64 st.fTxg, .slice a4 st.fGone.length c4, .int .i64 st.fKeep, .slice a6 st.fDead.length c6, .bool st.fSame] 68)).alloc (.cells #[.slice none 0 0, .slice none 0 0, .slice none 0 0, .int .i64 0, .slice none 0 0, .int .i64 0, .slice none 0 0, .bool false] 68))) := ⟨((Below.refl _ _).alloc (Nat.le_refl _) _).alloc (by simp) _⟩
  have HC := Bx.mk (specStoreOk_any _ st _ (HRd.out.below HB.out) hf hi)
  go_enter Try.func32, Try.ntmps32
  go_wp2_with fail
  refine HC.out.mono ?_
  rintro e w1 ⟨rfl, b1⟩
  have hb1 := HB.out.trans (b1.mono HB.out.size)
  have hX1 := HX.out.below b1 (Nat.le_refl _)
  have hR1 := HR.out.below b1 (Nat.le_refl _)
  have hw1 : w.heap.size + 1 < w1.heap.size := hR1.lt
  have x3 : w1.cell? ⟨w.heap.size, 3, none⟩ = some (.int .i64 st.fTxg) := hX1.cell 3
  have HX1 := Bx.mk hX1
  have HR1 := Bx.mk hR1
  have HB1 := Bx.mk hb1
  clear hX1 hR1 hb1 b1 HX HR HB HC
  have done0 : ∀ {b : Bool}, b = false → Bx (st.mayNext = b) → Bx (st.mayNext = false ∧ st.stepped = StoreD.zero) := fun h k => by
    subst h
    exact ⟨k.out, by unfold StoreD.stepped; rw [k.out]; rfl⟩
  cases hok : st.ok
  · have HM := done0 rfl ⟨show st.mayNext = false by simp [StoreD.mayNext, hok]⟩
    clear hok done0
    go_wp2_with (refine wpList_store_box rfl 68 _ _ rfl (w.heap.size + 1) 8 _ _ _ rfl rfl HR1.out cells_zero ?hI ?_)
    case hI => kernel_rfl
    intro w2 hR2 hO2 hs2
    go_wp2
    refine bodyPost_ret (v := .tuple #[.agg #[.slice none 0 0, .slice none 0 0, .slice none 0 0, .int .i64 0, .slice none 0 0, .int .i64 0, .slice none 0 0, .bool false], .bool false]) (by simp [results, Try.results32, go_sem, hR2.cell 0, hR2.cell 1, hR2.cell 2, hR2.cell 3, hR2.cell 4, hR2.cell 5, hR2.cell 6, hR2.cell 7]) rfl ?_
    rw [HM.out.2, HM.out.1]
    exact ⟨_, rfl, own_zero _ _ _, HB1.out.trans ((hO2.below (by omega)).mono (by omega))⟩
  · by_cases h9 : st.fTxg = 900
    · have HM := done0 rfl ⟨show st.mayNext = false by simp [StoreD.mayNext, h9]⟩
      have h9' : (900 : Int) ≤ st.fTxg := by omega
      clear hok h9 done0
      go_wp2_with (refine wpList_store_box rfl 68 _ _ rfl (w.heap.size + 1) 8 _ _ _ rfl rfl HR1.out cells_zero ?hI ?_)
      case hI => kernel_rfl
      intro w2 hR2 hO2 hs2
      go_wp2
      refine bodyPost_ret (v := .tuple #[.agg #[.slice none 0 0, .slice none 0 0, .slice none 0 0, .int .i64 0, .slice none 0 0, .int .i64 0, .slice none 0 0, .bool false], .bool false]) (by simp [results, Try.results32, go_sem, hR2.cell 0, hR2.cell 1, hR2.cell 2, hR2.cell 3, hR2.cell 4, hR2.cell 5, hR2.cell 6, hR2.cell 7]) rfl ?_
      rw [HM.out.2, HM.out.1]
      exact ⟨_, rfl, own_zero _ _ _, HB1.out.trans ((hO2.below (by omega)).mono (by omega))⟩
    · have HM : Bx (st.mayNext = true ∧ st.stepped = st.nextOf) := ⟨by
        have : st.mayNext = true := by simp [StoreD.mayNext, hok, h9]
        exact ⟨this, by unfold StoreD.stepped; rw [this]; rfl⟩⟩
      have HOK := Bx.mk (StoreD.ok_spec hok)
      have HSP := Bx.mk (SpaceD.ok_spec HOK.out.space)
      have h9' : st.fTxg < 900 := by have := HOK.out.txg; omega
      clear hok h9 done0
      go_wp2_with (refine wpList_load_box rfl 68 _ rfl w.heap.size 8 _ _ rfl HX1.out _ Try.underlying68 rfl ?hI1 ?_)
      case hI1 => kernel_rfl
      refine (l7Copy_any _ st w1 hf (HO.out.below HB1.out (Nat.le_refl _))).mono ?_
      rintro e w2 ⟨_, rfl, ⟨d0, f0, d1, f1, d2, f2, d4, f4, d6, f6, rfl, m0, m1, m2, m4, m6, p01, p02, p04, p06, p12, p14, p16, p24, p26, p46⟩, b2⟩
      have hin : ∀ p ∈ st.fGone, 8 ≤ p.fAt ∧ p.fAt ≤ 63 := fun p hp => by
        have := ptrIn_at (List.all_eq_true.1 HOK.out.gone p hp)
        omega
      have how : ∀ i, i < 64 → (cnt st.fGone i : Int) ≤ st.fSpace.fRefs.getD i 0 := fun i hi => by
        have h1 := List.all_eq_true.1 HOK.out.owed i (List.mem_range.2 hi)
        simp only [decide_eq_true_eq] at h1
        have := cnt_append st.fGone st.fDead i
        omega
      have hmx : ∀ i, i < 64 → st.fSpace.fRefs.getD i 0 ≤ 900 := fun i hi => by
        have := HSP.out.each i hi
        omega
      have HN := Bx.mk (l7Next_any d0 f0 d1 f1 d2 f2 d4 f4 d6 f6 st w1.heap.size w2.heap.size w2 HOK.out.rows HSP.out.refs HSP.out.last hf.f4 HOK.out.txg hin how hmx m0 m1 m2 m4 p01 p02 p12 p04.symm p14.symm p24.symm)
      have HR2 := Bx.mk (HR1.out.below b2 (Nat.le_refl _))
      have HB2 := Bx.mk (HB1.out.trans (b2.mono HB1.out.size))
      have M := Bx.mk (And.intro m0 (And.intro m1 (And.intro m2 m6)))
      have AP := Bx.mk (And.intro p01 (And.intro p02 (And.intro p06 (And.intro p12 (And.intro p16 p26)))))
      have hs2 := b2.size
      clear hin how hmx m0 m1 m2 m4 m6 p01 p02 p04 p06 p12 p14 p16 p24 p26 p46 b2
      go_wp2_with fail
      refine HN.out.mono ?_
      rintro e w3 ⟨d4, rfl, n0, n1, n2, hg⟩
      have hO : Outside w1.heap.size w2.heap.size w2 w3 := hg.outside (all3 (fun g h => by have := M.out.1.lt g h; omega) (fun g h => by have := M.out.2.1.lt g h; omega) (fun g h => by have := M.out.2.2.1.lt g h; omega))
      have n6 := M.out.2.2.2.all hg (all3 AP.out.2.2.1.symm AP.out.2.2.2.2.1.symm AP.out.2.2.2.2.2.symm)
      have HR3 := Bx.mk (HR2.out.outside hO (.inl (by omega)))
      have HB3 := Bx.mk (HB2.out.trans ((hO.below hs2).mono (by omega)))
      have NR := Bx.mk (And.intro n0 (And.intro n1 (And.intro n2 n6)))
      have hs3 := hg.size
      clear n0 n1 n2 n6 hg hO
      go_wp2_with (refine wpList_store_box rfl 68 _ _ rfl (w.heap.size + 1) 8 _ _ _ rfl rfl HR3.out (cells_store _ _ _ _ _ _ _ _ _ _ _ _ _ _ _ _ _ _) ?hI2 ?_)
      case hI2 => kernel_rfl
      intro w4 hR4 hO4 hs4
      go_wp2
      refine bodyPost_ret (v := .tuple #[.agg #[.slice d0 st.fRows.length f0, .slice d1 st.fSpace.fRefs.length f1, .slice d2 st.fSpace.fLast.length f2, .int .i64 (st.fTxg + 1), .slice d4 0 0, .int .i64 st.fKeep, .slice d6 st.fDead.length f6, .bool st.fSame], .bool true]) (by simp [results, Try.results32, go_sem, hR4.cell 0, hR4.cell 1, hR4.cell 2, hR4.cell 3, hR4.cell 4, hR4.cell 5, hR4.cell 6, hR4.cell 7]) rfl ?_
      rw [HM.out.2, HM.out.1]
      exact ⟨_, rfl, own_next_of hO4 (by omega) (by omega) (by omega) NR.out.1 NR.out.2.1 NR.out.2.2.1 NR.out.2.2.2 AP.out.1 AP.out.2.1 AP.out.2.2.1 AP.out.2.2.2.1 AP.out.2.2.2.2.1 AP.out.2.2.2.2.2, HB3.out.trans ((hO4.below (by omega)).mono (by omega))⟩
end Go.Proofs.Ytkgmilobmbeplaa
