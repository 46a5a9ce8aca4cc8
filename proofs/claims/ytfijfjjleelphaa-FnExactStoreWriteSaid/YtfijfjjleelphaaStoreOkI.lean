/- StoreOk of the program. -/
import Derived.Test.YtfijfjjleelphaaStoreOkC
import Derived.Test.YtfijfjjleelphaaClone
import Derived.Test.YtfijfjjleelphaaLater
import Derived.BigRegion
import Derived.Test.YtfijfjjleelphaaStoreOkS
namespace Go.Proofs.Ytfijfjjleelphaa
open Go.RowKit

/-- The greatest of the first k numbers, the first among them. -/
def maxT (xs : List Int) (k : Nat) : Int := (xs.take k).foldl max (xs.getD 0 0)
theorem maxT_succ (xs : List Int) (k : Nat) {x : Int} (h : xs[k]? = some x) : maxT xs (k + 1) = max (maxT xs k) x := by
  obtain ⟨hk, rfl⟩ := List.getElem?_eq_some_iff.1 h
  unfold maxT
  rw [List.take_succ_eq_append_getElem hk, List.foldl_append]
  rfl
theorem maxT_one (xs : List Int) {x : Int} (h : xs[0]? = some x) : maxT xs 1 = x := by
  rw [show (1 : Nat) = 0 + 1 from rfl, maxT_succ xs 0 h]
  simp [maxT, List.getD, h]
theorem maxT_le (xs : List Int) (t : Int) : ∀ k, k ≤ xs.length → 0 < k → (maxT xs k ≤ t ↔ ∀ i, i < k → xs.getD i 0 ≤ t)
  | 0, _, h => absurd h (Nat.lt_irrefl _)
  | 1, h1, _ => by
    have h0 : xs[0]? = some xs[0] := List.getElem?_eq_getElem (by omega)
    rw [maxT_one xs h0]
    constructor
    · intro h i hi
      obtain rfl : i = 0 := by omega
      simpa [List.getD, h0] using h
    · intro h
      have := h 0 (by omega)
      simpa [List.getD, h0] using this
  | k + 2, h1, _ => by
    have h0 : xs[k + 1]? = some xs[k + 1] := List.getElem?_eq_getElem (by omega)
    rw [maxT_succ xs (k + 1) h0]
    have ih := maxT_le xs t (k + 1) (by omega) (by omega)
    constructor
    · intro h i hi
      by_cases hik : i = k + 1
      · subst hik
        have : xs[k + 1] ≤ t := by omega
        simpa [List.getD, h0] using this
      · exact ih.1 (by omega) i (by omega)
    · intro h
      have h2 := ih.2 (fun i hi => h i (by omega))
      have h3 := h (k + 1) (by omega)
      have h4 : xs[k + 1] ≤ t := by simpa [List.getD, h0] using h3
      omega

set_option maxHeartbeats 400000 in
set_option maxRecDepth 100000 in
theorem maxS_any (ao : Option Addr) (len cap : Nat) (xs : List Int) (w : World) (hlen : len ≤ 1048576) (hpos : 0 < len) (hr : Rd encI 1 w ao len xs) :
    Calls Try.prog 142 #[.slice ao len cap] w fun e w' => e = .returned (.int .i64 (maxT xs len)) ∧ w = w' := by
  obtain ⟨b, off, x, hx0, rfl, hbl, hrg⟩ := hr.at_ 0 (by rw [hr.len]; exact hpos)
  have c0 := hrg 0 _ rfl
  simp only [Nat.zero_mul, Nat.add_zero] at c0
  have H1 := Lib.hid (maxT_one xs hx0)
  clear hrg hx0
  go_enter Try.func142, Try.ntmps142
  go_wp2
  go_loop [3, 4] (fun m i => ∃ k : Nat, 1 ≤ k ∧ k ≤ len ∧ i = .int .i64 k ∧ m = .int .i64 (maxT xs k)) (fun _ i => len - (intOf i).toNat)
  case atStart => exact ⟨1, by omega, by omega, rfl, by rw [H1.out]⟩
  case round =>
    obtain ⟨k, hk1, hk, rfl, rfl⟩ := hrel
    by_cases hlt : k < len
    · obtain ⟨b2, off2, y, hy0, hao, hbl2, hrg2⟩ := hr.at_ k (by rw [hr.len]; exact hlt)
      simp only [Option.some.injEq, Addr.mk.injEq, and_true] at hao
      obtain ⟨rfl, rfl⟩ := hao
      have c1 := hrg2 0 _ rfl
      simp only [Nat.mul_one, Nat.add_zero] at c1
      have H2 := Lib.hid (maxT_succ xs k hy0)
      clear hy0 hrg2
      go_wp2
      go_round
      case rel => exact ⟨k + 1, by omega, by omega, by go_num, by rw [H2.out, ifmax]⟩
      case measure => simp [intOf]; omega
    · have hk' : k = len := by omega
      subst hk'
      go_wp2
      go_ret
      exact ⟨rfl, rfl⟩

/- From here on printed by storeok.py. -/

/-- What the closure sees is what a valid store says. -/
theorem owed_pos {refs : List Int} {ps : List PtrD} (h : owedOk refs ps = true) {p : PtrD} (hp : p ∈ ps) {m : Int} (hin : ptrIn p m = true) : refs.getD p.fAt.toNat 0 ≠ 0 := by
  obtain ⟨h1, h2, _⟩ := ptrIn_at hin
  obtain ⟨a, ha⟩ : ∃ a : Nat, p.fAt = (a : Int) := ⟨p.fAt.toNat, by omega⟩
  simp only [owedOk, List.all_eq_true] at h
  have h3 := h a (List.mem_range.2 (by omega))
  simp only [decide_eq_true_eq] at h3
  have h4 : 0 < cnt ps a := List.length_pos_of_mem (List.mem_filter.2 ⟨hp, by simp [ha]⟩)
  rw [ha, Int.toNat_natCast]
  omega
theorem all_good {refs : List Int} {ps qs : List PtrD} (h : owedOk refs qs = true) (hs : ∀ p ∈ ps, p ∈ qs) (m : Int) : ps.all (fun p => ptrIn p m) = ps.all (good refs m) := by
  rw [Bool.eq_iff_iff, List.all_eq_true, List.all_eq_true]
  refine ⟨fun k p hp => ?_, fun k p hp => ?_⟩
  · have h1 := k p hp
    have h2 := owed_pos h (hs p hp) h1
    rw [good, h1, Bool.true_and, bne_iff_ne]
    exact h2
  · have h1 := k p hp
    simp only [good, Bool.and_eq_true] at h1
    exact h1.1
theorem ok_good (st : StoreD) : (st.fGone.all (fun p => ptrIn p (st.fTxg - 1)) && (st.fDead.all (fun p => ptrIn p st.fKeep) && owedOk st.fSpace.fRefs (st.fGone ++ st.fDead))) =
    (st.fGone.all (good st.fSpace.fRefs (st.fTxg - 1)) && (st.fDead.all (good st.fSpace.fRefs st.fKeep) && owedOk st.fSpace.fRefs (st.fGone ++ st.fDead))) := by
  cases h : owedOk st.fSpace.fRefs (st.fGone ++ st.fDead)
  · simp
  · rw [all_good h (fun p hp => List.mem_append_left _ hp), all_good h (fun p hp => List.mem_append_right _ hp)]
def owedTo (refs : List Int) (ps : List PtrD) (k : Nat) : Bool := (List.range k).all fun i => decide ((cnt ps i : Int) ≤ refs.getD i 0)
theorem owedTo_succ (refs : List Int) (ps : List PtrD) (k : Nat) : owedTo refs ps (k + 1) = (owedTo refs ps k && decide ((cnt ps k : Int) ≤ refs.getD k 0)) := by simp [owedTo, List.range_succ]
theorem owed_bad {refs : List Int} {ps : List PtrD} {k : Nat} (hk : k < 64) (h : refs.getD k 0 < (cnt ps k : Int)) : owedOk refs ps = false := by
  unfold owedOk
  rw [List.all_eq_false]
  exact ⟨k, List.mem_range.2 hk, by simp only [decide_eq_true_eq]; omega⟩
theorem last_bad {st : StoreD} (hl : st.fSpace.fLast.length = 64) (h : ¬ maxT st.fSpace.fLast st.fSpace.fLast.length ≤ st.fTxg) : rowsSt st 64 = false := by
  rw [maxT_le _ _ _ (Nat.le_refl _) (by omega)] at h
  cases hr : rowsSt st 64 with
  | false => rfl
  | true =>
    refine absurd (fun i hi => ?_) h
    have := rowsSt_le hr (k := i) (by omega)
    simp only [rowSt, Bool.and_eq_true, decide_eq_true_eq] at this
    exact this.2.2
theorem last_good {st : StoreD} (hl : st.fSpace.fLast.length = 64) (h : maxT st.fSpace.fLast st.fSpace.fLast.length ≤ st.fTxg) : ∀ i, i < 64 → st.fSpace.fLast.getD i 0 ≤ st.fTxg := by
  rw [maxT_le _ _ _ (Nat.le_refl _) (by omega)] at h
  exact fun i hi => h i (by omega)

set_option maxHeartbeats 4000000 in
set_option maxRecDepth 100000 in
theorem implStoreOk_any (v : Value) (st : StoreD) (w : World) (hr : StoreD.Reads w v st) (hf : st.Fit) :
    Calls Try.prog 88 #[v] w fun e w' => e = .returned (.bool st.ok) ∧ Below w.heap.size w w' := by
  obtain ⟨a0, c0, a1, c1, a2, c2, a4, c4, a6, c6, rfl, r0, r1, r2, r4, r6⟩ := hr
  have hl0 := hf.f0
  have hb0 : Below w.heap.size w (w.alloc (.cells #[.slice a0 st.fRows.length c0, .slice a1 st.fSpace.fRefs.length c1, .slice a2 st.fSpace.fLast.length c2, .int .i64 st.fTxg, .slice a4 st.fGone.length c4, .int .i64 st.fKeep, .slice a6 st.fDead.length c6, .bool st.fSame] 65)) := (Below.refl _ _).alloc (Nat.le_refl _) _
  have hA0 := blk_new w (.cells #[.slice a0 st.fRows.length c0, .slice a1 st.fSpace.fRefs.length c1, .slice a2 st.fSpace.fLast.length c2, .int .i64 st.fTxg, .slice a4 st.fGone.length c4, .int .i64 st.fKeep, .slice a6 st.fDead.length c6, .bool st.fSame] 65) _ rfl
  have HSg : Bx (∀ n : Later (w.alloc (.cells #[.slice a0 st.fRows.length c0, .slice a1 st.fSpace.fRefs.length c1, .slice a2 st.fSpace.fLast.length c2, .int .i64 st.fTxg, .slice a4 st.fGone.length c4, .int .i64 st.fKeep, .slice a6 st.fDead.length c6, .bool st.fSame] 65)), Calls Try.prog 141 #[.agg #[.slice a1 st.fSpace.fRefs.length c1, .slice a2 st.fSpace.fLast.length c2]] n.val fun e w'' => e = .returned (.bool st.fSpace.ok) ∧ ∃ m : Later (w.alloc (.cells #[.slice a0 st.fRows.length c0, .slice a1 st.fSpace.fRefs.length c1, .slice a2 st.fSpace.fLast.length c2, .int .i64 st.fTxg, .slice a4 st.fGone.length c4, .int .i64 st.fKeep, .slice a6 st.fDead.length c6, .bool st.fSame] 65)), w'' = m.val) := ⟨fun n =>
    later_of (implSpaceOk_any _ st.fSpace _ ⟨_, _, _, _, rfl, (r1.below hb0).below n.below, (r2.below hb0).below n.below⟩ ⟨hf.f1, hf.f2⟩)⟩
  have HW1g : Bx (∀ n : Later (w.alloc (.cells #[.slice a0 st.fRows.length c0, .slice a1 st.fSpace.fRefs.length c1, .slice a2 st.fSpace.fLast.length c2, .int .i64 st.fTxg, .slice a4 st.fGone.length c4, .int .i64 st.fKeep, .slice a6 st.fDead.length c6, .bool st.fSame] 65)), Calls Try.prog 65 #[.int .i64 st.fTxg, .int .i64 1, .int .i64 900] n.val fun e w'' => e = .returned (.bool (inB st.fTxg 1 900)) ∧ ∃ m : Later (w.alloc (.cells #[.slice a0 st.fRows.length c0, .slice a1 st.fSpace.fRefs.length c1, .slice a2 st.fSpace.fLast.length c2, .int .i64 st.fTxg, .slice a4 st.fGone.length c4, .int .i64 st.fKeep, .slice a6 st.fDead.length c6, .bool st.fSame] 65)), w'' = m.val) := ⟨fun n => later_of_same (within_any _ _ _ _)⟩
  have HW2g : Bx (∀ n : Later (w.alloc (.cells #[.slice a0 st.fRows.length c0, .slice a1 st.fSpace.fRefs.length c1, .slice a2 st.fSpace.fLast.length c2, .int .i64 st.fTxg, .slice a4 st.fGone.length c4, .int .i64 st.fKeep, .slice a6 st.fDead.length c6, .bool st.fSame] 65)), Calls Try.prog 65 #[.int .i64 st.fKeep, .int .i64 0, .int .i64 (st.fTxg - 1)] n.val fun e w'' => e = .returned (.bool (inB st.fKeep 0 (st.fTxg - 1))) ∧ ∃ m : Later (w.alloc (.cells #[.slice a0 st.fRows.length c0, .slice a1 st.fSpace.fRefs.length c1, .slice a2 st.fSpace.fLast.length c2, .int .i64 st.fTxg, .slice a4 st.fGone.length c4, .int .i64 st.fKeep, .slice a6 st.fDead.length c6, .bool st.fSame] 65)), w'' = m.val) := ⟨fun n => later_of_same (within_any _ _ _ _)⟩
  have HMg : Bx (0 < st.fSpace.fLast.length → ∀ n : Later (w.alloc (.cells #[.slice a0 st.fRows.length c0, .slice a1 st.fSpace.fRefs.length c1, .slice a2 st.fSpace.fLast.length c2, .int .i64 st.fTxg, .slice a4 st.fGone.length c4, .int .i64 st.fKeep, .slice a6 st.fDead.length c6, .bool st.fSame] 65)), Calls Try.prog 142 #[.slice a2 st.fSpace.fLast.length c2] n.val fun e w'' => e = .returned (.int .i64 (maxT st.fSpace.fLast st.fSpace.fLast.length)) ∧ ∃ m : Later (w.alloc (.cells #[.slice a0 st.fRows.length c0, .slice a1 st.fSpace.fRefs.length c1, .slice a2 st.fSpace.fLast.length c2, .int .i64 st.fTxg, .slice a4 st.fGone.length c4, .int .i64 st.fKeep, .slice a6 st.fDead.length c6, .bool st.fSame] 65)), w'' = m.val) := ⟨fun hp n => later_of_same (maxS_any a2 _ c2 st.fSpace.fLast n.val hf.f2 hp ((r2.below hb0).below n.below))⟩
  have H0 := Bx.mk hb0
  have HF := Bx.mk hf
  have q0 : ∀ n : Later (w.alloc (.cells #[.slice a0 st.fRows.length c0, .slice a1 st.fSpace.fRefs.length c1, .slice a2 st.fSpace.fLast.length c2, .int .i64 st.fTxg, .slice a4 st.fGone.length c4, .int .i64 st.fKeep, .slice a6 st.fDead.length c6, .bool st.fSame] 65)), n.val.cell? ⟨w.heap.size, 0, none⟩ = some (.slice a0 st.fRows.length c0) := later_cell (blk_cell hA0 0)
  have q1 : ∀ n : Later (w.alloc (.cells #[.slice a0 st.fRows.length c0, .slice a1 st.fSpace.fRefs.length c1, .slice a2 st.fSpace.fLast.length c2, .int .i64 st.fTxg, .slice a4 st.fGone.length c4, .int .i64 st.fKeep, .slice a6 st.fDead.length c6, .bool st.fSame] 65)), n.val.cell? ⟨w.heap.size, 1, none⟩ = some (.slice a1 st.fSpace.fRefs.length c1) := later_cell (blk_cell hA0 1)
  have q2 : ∀ n : Later (w.alloc (.cells #[.slice a0 st.fRows.length c0, .slice a1 st.fSpace.fRefs.length c1, .slice a2 st.fSpace.fLast.length c2, .int .i64 st.fTxg, .slice a4 st.fGone.length c4, .int .i64 st.fKeep, .slice a6 st.fDead.length c6, .bool st.fSame] 65)), n.val.cell? ⟨w.heap.size, 2, none⟩ = some (.slice a2 st.fSpace.fLast.length c2) := later_cell (blk_cell hA0 2)
  have q3 : ∀ n : Later (w.alloc (.cells #[.slice a0 st.fRows.length c0, .slice a1 st.fSpace.fRefs.length c1, .slice a2 st.fSpace.fLast.length c2, .int .i64 st.fTxg, .slice a4 st.fGone.length c4, .int .i64 st.fKeep, .slice a6 st.fDead.length c6, .bool st.fSame] 65)), n.val.cell? ⟨w.heap.size, 3, none⟩ = some (.int .i64 st.fTxg) := later_cell (blk_cell hA0 3)
  have q5 : ∀ n : Later (w.alloc (.cells #[.slice a0 st.fRows.length c0, .slice a1 st.fSpace.fRefs.length c1, .slice a2 st.fSpace.fLast.length c2, .int .i64 st.fTxg, .slice a4 st.fGone.length c4, .int .i64 st.fKeep, .slice a6 st.fDead.length c6, .bool st.fSame] 65)), n.val.cell? ⟨w.heap.size, 5, none⟩ = some (.int .i64 st.fKeep) := later_cell (blk_cell hA0 5)
  have HA0 := Bx.mk hA0
  clear hA0 hb0
  by_cases h64 : st.fRows.length = 64
  rotate_left
  · have hl : ((st.fRows.length : Int) != 64) = true := by simp [bne]; omega
    have HB : Bx (st.ok = false) := ⟨by show _ = _; unfold StoreD.ok; simp [h64]⟩
    clear hf
    go_enter Try.func88, Try.ntmps88
    go_wp2_with fail
    generalize w.alloc (.cells #[.slice a0 st.fRows.length c0, .slice a1 st.fSpace.fRefs.length c1, .slice a2 st.fSpace.fLast.length c2, .int .i64 st.fTxg, .slice a4 st.fGone.length c4, .int .i64 st.fKeep, .slice a6 st.fDead.length c6, .bool st.fSame] 65) = W0 at *
    refine wp_region_later_lit (by kernel_rfl) (by kernel_rfl) ?_
    repeat (go_big_quiet_step (first | (go_at_call 141; with_reducible exact HS.out _) | (go_at_call 65; first | with_reducible exact HW1.out _ | with_reducible exact HW2.out _) | (go_at_call 142; with_reducible exact HM.out _)))
    refine wpQuiet_nil ?_
    intro _ hw'
    obtain ⟨nq, hw''⟩ := hw'
    subst hw''
    go_wp2
    go_ret
    exact ⟨ret_bool HB.out.symm, H0.out.trans (nq.below.mono H0.out.size)⟩
  · have hl : ((st.fRows.length : Int) != 64) = false := by simp [h64]
    have H64 := Bx.mk h64
    clear h64
    cases hsp : st.fSpace.ok
    · have HS := HSg.out
      rw [hsp] at HS
      have HS := Bx.mk HS
      have HB : Bx (st.ok = false) := ⟨by show _ = _; unfold StoreD.ok; simp [hsp]⟩
      clear hf hsp
      go_enter Try.func88, Try.ntmps88
      go_wp2_with fail
      generalize w.alloc (.cells #[.slice a0 st.fRows.length c0, .slice a1 st.fSpace.fRefs.length c1, .slice a2 st.fSpace.fLast.length c2, .int .i64 st.fTxg, .slice a4 st.fGone.length c4, .int .i64 st.fKeep, .slice a6 st.fDead.length c6, .bool st.fSame] 65) = W0 at *
      refine wp_region_later_lit (by kernel_rfl) (by kernel_rfl) ?_
      repeat (go_big_quiet_step (first | (go_at_call 141; with_reducible exact HS.out _) | (go_at_call 65; first | with_reducible exact HW1.out _ | with_reducible exact HW2.out _) | (go_at_call 142; with_reducible exact HM.out _)))
      refine wpQuiet_nil ?_
      intro _ hw'
      obtain ⟨nq, hw''⟩ := hw'
      subst hw''
      go_wp2
      go_ret
      exact ⟨ret_bool HB.out.symm, H0.out.trans (nq.below.mono H0.out.size)⟩
    · have HS := HSg.out
      rw [hsp] at HS
      have HS := Bx.mk HS
      cases htx : inB st.fTxg 1 900
      · have HW1 := HW1g.out
        rw [htx] at HW1
        have HW1 := Bx.mk HW1
        have HB : Bx (st.ok = false) := ⟨by show _ = _; unfold StoreD.ok; simp [htx]⟩
        clear hf hsp htx
        go_enter Try.func88, Try.ntmps88
        go_wp2_with fail
        generalize w.alloc (.cells #[.slice a0 st.fRows.length c0, .slice a1 st.fSpace.fRefs.length c1, .slice a2 st.fSpace.fLast.length c2, .int .i64 st.fTxg, .slice a4 st.fGone.length c4, .int .i64 st.fKeep, .slice a6 st.fDead.length c6, .bool st.fSame] 65) = W0 at *
        refine wp_region_later_lit (by kernel_rfl) (by kernel_rfl) ?_
        repeat (go_big_quiet_step (first | (go_at_call 141; with_reducible exact HS.out _) | (go_at_call 65; first | with_reducible exact HW1.out _ | with_reducible exact HW2.out _) | (go_at_call 142; with_reducible exact HM.out _)))
        refine wpQuiet_nil ?_
        intro _ hw'
        obtain ⟨nq, hw''⟩ := hw'
        subst hw''
        go_wp2
        go_ret
        exact ⟨ret_bool HB.out.symm, H0.out.trans (nq.below.mono H0.out.size)⟩
      · have HW1 := HW1g.out
        rw [htx] at HW1
        have HW1 := Bx.mk HW1
        have hbt := inB_true htx
        cases hkp : inB st.fKeep 0 (st.fTxg - 1)
        · have HW2 := HW2g.out
          rw [hkp] at HW2
          have HW2 := Bx.mk HW2
          have HB : Bx (st.ok = false) := ⟨by show _ = _; unfold StoreD.ok; simp [hkp]⟩
          clear hf hsp htx hkp
          go_enter Try.func88, Try.ntmps88
          go_wp2_with fail
          generalize w.alloc (.cells #[.slice a0 st.fRows.length c0, .slice a1 st.fSpace.fRefs.length c1, .slice a2 st.fSpace.fLast.length c2, .int .i64 st.fTxg, .slice a4 st.fGone.length c4, .int .i64 st.fKeep, .slice a6 st.fDead.length c6, .bool st.fSame] 65) = W0 at *
          refine wp_region_later_lit (by kernel_rfl) (by kernel_rfl) ?_
          repeat (go_big_quiet_step (first | (go_at_call 141; with_reducible exact HS.out _) | (go_at_call 65; first | with_reducible exact HW1.out _ | with_reducible exact HW2.out _) | (go_at_call 142; with_reducible exact HM.out _)))
          refine wpQuiet_nil ?_
          intro _ hw'
          obtain ⟨nq, hw''⟩ := hw'
          subst hw''
          go_wp2
          go_ret
          exact ⟨ret_bool HB.out.symm, H0.out.trans (nq.below.mono H0.out.size)⟩
        · have HW2 := HW2g.out
          rw [hkp] at HW2
          have HW2 := Bx.mk HW2
          have hbk := inB_true hkp
          have HSP := Bx.mk (SpaceD.ok_spec hsp)
          have HM := HMg.out (by rw [HSP.out.last]; decide)
          have HLB := Bx.mk (fun h => last_bad (st := st) HSP.out.last h)
          have HLG := Bx.mk (fun h => last_good (st := st) HSP.out.last h)
          have HST : Bx (st.ok = (rowsSt st 64 && (st.fGone.all (good st.fSpace.fRefs (st.fTxg - 1)) && (st.fDead.all (good st.fSpace.fRefs st.fKeep) && owedOk st.fSpace.fRefs (st.fGone ++ st.fDead))))) := ⟨by show _ = _; rw [← ok_good]; simp [StoreD.ok, H64.out, hsp, htx, hkp]⟩
          generalize maxT st.fSpace.fLast st.fSpace.fLast.length = mx at HM HLB HLG
          have HM := Bx.mk HM
          by_cases hmx : mx ≤ st.fTxg
          rotate_left
          · have hmx' : decide (st.fTxg < mx) = true := by simp; omega
            have HB : Bx (st.ok = false) := ⟨by show _ = _; rw [HST.out, HLB.out hmx]; rfl⟩
            clear hf hsp htx hkp
            go_enter Try.func88, Try.ntmps88
            go_wp2_with fail
            generalize w.alloc (.cells #[.slice a0 st.fRows.length c0, .slice a1 st.fSpace.fRefs.length c1, .slice a2 st.fSpace.fLast.length c2, .int .i64 st.fTxg, .slice a4 st.fGone.length c4, .int .i64 st.fKeep, .slice a6 st.fDead.length c6, .bool st.fSame] 65) = W0 at *
            refine wp_region_later_lit (by kernel_rfl) (by kernel_rfl) ?_
            repeat (go_big_quiet_step (first | (go_at_call 141; with_reducible exact HS.out _) | (go_at_call 65; first | with_reducible exact HW1.out _ | with_reducible exact HW2.out _) | (go_at_call 142; with_reducible exact HM.out _)))
            refine wpQuiet_nil ?_
            intro _ hw'
            obtain ⟨nq, hw''⟩ := hw'
            subst hw''
            go_wp2
            go_ret
            exact ⟨ret_bool HB.out.symm, H0.out.trans (nq.below.mono H0.out.size)⟩
          · have hmx' : decide (st.fTxg < mx) = false := by simp; omega
            have HLG := Bx.mk (HLG.out hmx)
            have hg4 := hf.f4
            have hg6 := hf.f6
            clear hf hsp htx hkp
            go_enter Try.func88, Try.ntmps88
            go_wp2_with fail
            generalize w.alloc (.cells #[.slice a0 st.fRows.length c0, .slice a1 st.fSpace.fRefs.length c1, .slice a2 st.fSpace.fLast.length c2, .int .i64 st.fTxg, .slice a4 st.fGone.length c4, .int .i64 st.fKeep, .slice a6 st.fDead.length c6, .bool st.fSame] 65) = W0 at *
            refine wp_region_later_lit (by kernel_rfl) (by kernel_rfl) ?_
            repeat (go_big_quiet_step (first | (go_at_call 141; with_reducible exact HS.out _) | (go_at_call 65; first | with_reducible exact HW1.out _ | with_reducible exact HW2.out _) | (go_at_call 142; with_reducible exact HM.out _)))
            refine wpQuiet_nil ?_
            intro _ hw'
            obtain ⟨nq, hw''⟩ := hw'
            subst hw''
            have hA1 := blk_below HA0.out nq.below (Nat.le_refl _)
            have hb1 := H0.out.trans (nq.below.mono H0.out.size)
            clear q0 q1 q2 q3 q5
            generalize nq.val = w1 at hA1 hb1 ⊢
            have p0 : w1.cell? ⟨w.heap.size, 0, none⟩ = some (.slice a0 st.fRows.length c0) := blk_cell hA1 0
            go_wp2
            clear p0
            go_loopw [46] (fun i wr => ∃ k : Nat, k ≤ 64 ∧ i = .int .i64 k ∧ rowsSt st k = true ∧ Below w.heap.size w wr ∧ wr.heap[w.heap.size]? = some (.cells #[.slice a0 st.fRows.length c0, .slice a1 st.fSpace.fRefs.length c1, .slice a2 st.fSpace.fLast.length c2, .int .i64 st.fTxg, .slice a4 st.fGone.length c4, .int .i64 st.fKeep, .slice a6 st.fDead.length c6, .bool st.fSame] 65 (0, 0))) (fun i _ => 64 - (intOf i).toNat)
            case atStart => exact ⟨0, by omega, rfl, rfl, hb1, hA1⟩
            case round =>
              obtain ⟨k, hk, rfl, hok, hb, hA⟩ := hrel
              have HOK := Bx.mk hok
              clear hok hb1 hA1
              by_cases hlt : k < 64
              · obtain ⟨b, off, s, hx0, rfl, hbl, hrg⟩ := r0.at_ k (by rw [H64.out]; exact hlt)
                have d0 := (rangeAt_below hrg hb hbl) 0 _ rfl
                obtain ⟨b1, off1, r, hx1, rfl, hbl1, hrg1⟩ := r1.at_ k (by rw [HSP.out.refs]; exact hlt)
                have d1 := (rangeAt_below hrg1 hb hbl1) 0 _ rfl
                simp only [Nat.mul_one, Nat.add_zero] at d0 d1
                have e0 := getD_of (d := ByteArray.empty) hx0
                have e1 := getD_of (d := (0 : Int)) hx1
                have hrow : Bx (rowSt st k = (decide (s.size ≤ 128) && ((s.size == 0) == (r == 0) && decide (st.fSpace.fLast.getD k 0 ≤ st.fTxg)))) := ⟨by show _ = _; unfold rowSt; rw [e0, e1]⟩
                have hlast : Bx (rowSt st k = false → st.ok = false) := ⟨fun h => by rw [HST.out, rowsSt_bad hlt h]; rfl⟩
                have hnext : Bx (rowSt st k = true → rowsSt st (k + 1) = true) := ⟨fun h => by rw [rowsSt_succ, HOK.out, h]; rfl⟩
                have hlk := Bx.mk (decide_eq_true (HLG.out k hlt))
                have hlen0 : k < st.fRows.length := by rw [H64.out]; exact hlt
                have hlen1 : k < st.fSpace.fRefs.length := by rw [HSP.out.refs]; exact hlt
                have p1 : wr.cell? ⟨w.heap.size, 1, none⟩ = some (.slice (some ⟨b1, off1, none⟩) st.fSpace.fRefs.length c1) := blk_cell hA 1
                have HA := Bx.mk hA
                clear hx0 hx1 hrg hrg1 hA e0 e1
                by_cases g1 : s.size ≤ 128
                rotate_left
                · have HR : Bx (rowSt st k = false) := ⟨by show _ = _; rw [hrow.out]; simp [g1]⟩
                  have g1' : decide ((128 : Int) < (s.size : Int)) = true := by simp; omega
                  go_wp2
                  go_ret
                  exact ⟨ret_bool (hlast.out HR.out).symm, hb⟩
                · have g1' : decide ((128 : Int) < (s.size : Int)) = false := by simp; omega
                  have e1 : ∀ (cb : Bool), (s.size == 0) = cb → s.toList.isEmpty = cb := fun cb h => str_empty s cb h
                  cases gs : (s.size == 0)
                  all_goals
                    have gs2 := e1 _ gs
                    clear e1
                    cases gr : (r == 0)
                  · have HR : Bx (rowSt st k = true) := ⟨by show _ = _; rw [hrow.out, hlk.out, gs, gr]; simp [g1]⟩
                    go_wp2
                    go_roundw
                    case rel => exact ⟨k + 1, by omega, by go_num, hnext.out HR.out, hb, HA.out⟩
                    case measure => simp [intOf]; omega
                  · have HR : Bx (rowSt st k = false) := ⟨by show _ = _; rw [hrow.out]; simp [gs, gr]⟩
                    go_wp2
                    go_ret
                    exact ⟨ret_bool (hlast.out HR.out).symm, hb⟩
                  · have HR : Bx (rowSt st k = false) := ⟨by show _ = _; rw [hrow.out]; simp [gs, gr]⟩
                    go_wp2
                    go_ret
                    exact ⟨ret_bool (hlast.out HR.out).symm, hb⟩
                  · have HR : Bx (rowSt st k = true) := ⟨by show _ = _; rw [hrow.out, hlk.out, gs, gr]; simp [g1]⟩
                    go_wp2
                    go_roundw
                    case rel => exact ⟨k + 1, by omega, by go_num, hnext.out HR.out, hb, HA.out⟩
                    case measure => simp [intOf]; omega
              · have hk' : k = 64 := by omega
                subst hk'
                have hmf : ∀ (fn : Fn) (first cap : Array Value) (w : World), (Instr.makeFunc fn first cap).run Try.prog w = .ok (.func fn first cap) w := fun _ _ _ _ => rfl
                have hlen : ((st.fRows.length : Nat) : Int) = 64 := by rw [H64.out]; rfl
                obtain ⟨i0, hi, hz0, hz1, hz2⟩ := info_parts Try.infoIntS
                go_wp2_with (refine wpList_make_full _ rfl (.const (.int .i64 64)) (.const (.int .i64 64)) 52 rfl wr.heap.size 3 i0 _ 1 Try.underlying52 hi hz0 hz1 .i64 .i64 _ _ 64 rfl rfl rfl rfl ?b2 ?b3 ?b4 ?_)
                case b2 => rw [hz2]; omega
                case b3 => unfold maxLen; omega
                case b4 => exact Nat.le_refl _
                intro wm hown hg
                have hbm : Below w.heap.size w wm := hb.grown hg hb.size (by simp)
                have hAm := blk_grown hA hg (by simp)
                have hgm : w.heap.size < wr.heap.size := blk_lt hA
                have hown : wm.ownsRow wr.heap.size 3 1 (.slice (some ⟨wr.heap.size, 0, none⟩) 64 64) 64 (cntCells ([] : List PtrD)) := by rw [show ([] : List PtrD) = (([] : List PtrD).take 0) from rfl, ← cnt_start]; exact hown
                generalize wr.heap.size = g at hown hgm ⊢
                have hgw : g < wm.heap.size := (hown.lt g (by simp [Value.ownBlock])).2
                have hsw := blk_lt hAm
                have p3 : wm.cell? ⟨w.heap.size, 3, none⟩ = some (.int .i64 st.fTxg) := blk_cell hAm 3
                have p4 : wm.cell? ⟨w.heap.size, 4, none⟩ = some (.slice a4 st.fGone.length c4) := blk_cell hAm 4
                clear hb hA hg hi hz0 hz1 hz2 hlt hk r0 r2
                go_wp2_with fail
                have hM := blk_new wm (.cells #[.slice (some ⟨g, 0, none⟩) 64 64] 52) _ rfl
                have hAa := blk_alloc hAm (.cells #[.slice (some ⟨g, 0, none⟩) 64 64] 52)
                have hoa := hown.alloc (.cells #[.slice (some ⟨g, 0, none⟩) 64 64] 52)
                have hba := hbm.alloc hbm.size (.cells #[.slice (some ⟨g, 0, none⟩) 64 64] 52)
                refine (given_any a4 _ c4 [] st.fGone (st.fTxg - 1) st.fSpace.fRefs a1 c1 #[.slice a0 st.fRows.length c0, .slice a1 st.fSpace.fRefs.length c1, .slice a2 st.fSpace.fLast.length c2, .int .i64 st.fTxg, .slice a4 st.fGone.length c4, .int .i64 st.fKeep, .slice a6 st.fDead.length c6, .bool st.fSame] w.heap.size g wm.heap.size w _ hg4 (by simp) HSP.out.refs hgm hgw (Nat.le_of_lt hgm) hba rfl r1 r4 hAa hM hoa).mono ?_
                rintro e w2 ⟨rfl, hb2, hif2⟩
                have HIF2 := Bx.mk hif2
                have HGW := Bx.mk hgw
                clear hif2 hM hAa hoa hba hown hbm hAm p3 p4 hsw
                generalize wm.heap.size = m at *
                cases hg1 : st.fGone.all (good st.fSpace.fRefs (st.fTxg - 1))
                · have HB : Bx (st.ok = false) := ⟨by show _ = _; rw [HST.out, hg1]; simp⟩
                  go_wp2
                  go_ret
                  exact ⟨ret_bool HB.out.symm, hb2⟩
                · obtain ⟨hA2, hM2, ho2⟩ := HIF2.out hg1
                  simp only [List.nil_append] at ho2
                  have p5 : w2.cell? ⟨w.heap.size, 5, none⟩ = some (.int .i64 st.fKeep) := blk_cell hA2 5
                  have p6 : w2.cell? ⟨w.heap.size, 6, none⟩ = some (.slice a6 st.fDead.length c6) := blk_cell hA2 6
                  clear HIF2
                  go_wp2_with fail
                  refine (given_any a6 _ c6 st.fGone st.fDead st.fKeep st.fSpace.fRefs a1 c1 #[.slice a0 st.fRows.length c0, .slice a1 st.fSpace.fRefs.length c1, .slice a2 st.fSpace.fLast.length c2, .int .i64 st.fTxg, .slice a4 st.fGone.length c4, .int .i64 st.fKeep, .slice a6 st.fDead.length c6, .bool st.fSame] w.heap.size g m w _ hg6 hg4 HSP.out.refs hgm HGW.out (Nat.le_of_lt hgm) hb2 rfl r1 r6 hA2 hM2 ho2).mono ?_
                  rintro e w3 ⟨rfl, hb3, hif3⟩
                  have HIF3 := Bx.mk hif3
                  clear hif3 hb2 hA2 hM2 ho2 p5 p6
                  cases hg2 : st.fDead.all (good st.fSpace.fRefs st.fKeep)
                  · have HB : Bx (st.ok = false) := ⟨by show _ = _; rw [HST.out, hg2]; simp⟩
                    go_wp2
                    go_ret
                    exact ⟨ret_bool HB.out.symm, hb3⟩
                  · obtain ⟨hA3, hM3, ho3⟩ := HIF3.out hg2
                    have pm : w3.cell? ⟨m, 0, none⟩ = some (.slice (some ⟨g, 0, none⟩) 64 64) := blk_cell hM3 0
                    have p1 : w3.cell? ⟨w.heap.size, 1, none⟩ = some (.slice a1 st.fSpace.fRefs.length c1) := blk_cell hA3 1
                    have HST2 : Bx (st.ok = owedOk st.fSpace.fRefs (st.fGone ++ st.fDead)) := ⟨by show _ = _; rw [HST.out, HOK.out, hg1, hg2]; simp⟩
                    have HO3 := Bx.mk ho3
                    have HG1 := Bx.mk hg1
                    have HG2 := Bx.mk hg2
                    clear HIF3 hA3 hM3 ho3 hg1 hg2
                    go_wp2
                    go_loop [88] (fun i => ∃ k : Nat, k ≤ 64 ∧ i = .int .i64 k ∧ owedTo st.fSpace.fRefs (st.fGone ++ st.fDead) k = true) (fun i => 64 - (intOf i).toNat)
                    case atStart => exact ⟨0, by omega, rfl, rfl⟩
                    case round =>
                      obtain ⟨k, hk, rfl, how⟩ := hrel
                      have HOW := Bx.mk how
                      clear how
                      by_cases hlt : k < 64
                      · have hca : w3.cell? ⟨g, k, none⟩ = some (.int .i64 (cnt (st.fGone ++ st.fDead) k : Nat)) := by rw [HO3.out.cellAt k (by omega)]; exact cntCells_get _ _ hlt
                        have hbad : Bx (st.fSpace.fRefs.getD k 0 < (cnt (st.fGone ++ st.fDead) k : Int) → st.ok = false) := ⟨fun h => by rw [HST2.out, owed_bad hlt h]⟩
                        have hnext : Bx ((cnt (st.fGone ++ st.fDead) k : Int) ≤ st.fSpace.fRefs.getD k 0 → owedTo st.fSpace.fRefs (st.fGone ++ st.fDead) (k + 1) = true) := ⟨fun h => by rw [owedTo_succ, HOW.out]; simpa using h⟩
                        obtain ⟨b1, off1, r, hx1, rfl, hbl1, hrg1⟩ := r1.at_ k (by rw [HSP.out.refs]; exact hlt)
                        have g1 := (rangeAt_below hrg1 hb3 hbl1) 0 _ rfl
                        simp only [Nat.mul_one, Nat.add_zero] at g1
                        rw [getD_of (d := (0 : Int)) hx1] at hbad hnext
                        have hl1 : k < st.fSpace.fRefs.length := by rw [HSP.out.refs]; exact hlt
                        have hcl := cnt_le (st.fGone ++ st.fDead) k
                        rw [List.length_append] at hcl
                        clear hx1 hrg1
                        generalize cnt (st.fGone ++ st.fDead) k = cn at hca hbad hnext hcl
                        by_cases hle : (cn : Int) ≤ r
                        · have hcmp : decide (r < (cn : Int)) = false := by simp; omega
                          go_wp2
                          go_round
                          case rel => exact ⟨k + 1, by omega, by go_num, hnext.out hle⟩
                          case measure => simp [intOf]; omega
                        · have hcmp : decide (r < (cn : Int)) = true := by simp; omega
                          go_wp2
                          go_ret
                          exact ⟨ret_bool (hbad.out (by omega)).symm, hb3⟩
                      · have hk' : k = 64 := by omega
                        subst hk'
                        go_wp2
                        go_ret
                        exact ⟨ret_bool (HST2.out.trans HOW.out).symm, hb3⟩
end Go.Proofs.Ytfijfjjleelphaa
