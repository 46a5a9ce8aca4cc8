/- A part of the proof in YtoaopmkbfifhaaaGreatDoorIwLZ29. -/
import Derived.LoopIn
import Derived.LoopNIn
import Derived.OwnWalkIn
import Derived.RangeFuncLeaves
import Derived.RangeFuncNested
import Derived.Shelf.Abstract
import Derived.TacticsInMore
import Derived.Test.YtoaopmkbfifhaaaGreatDoorIwLZ16
/- What a disk shows, by the program: a range over a function. -/
namespace Go.Proofs.YtoaopmkbfifhaaaGreatDoor
set_option linter.unusedVariables false
set_option linter.unusedSimpArgs false
set_option maxHeartbeats 1000000
set_option maxRecDepth 100000
open Go.RowKit Go.Shelf

attribute [local go_sem] Oper.semAt_some

/-- What has come when k rounds are over: the last one first. -/
def uptoB (ws : List WaitD) (k : Nat) : List (Nat × WaitD) := (List.range k).map fun j => (ws.length - 1 - j, ws.getD (ws.length - 1 - j) default)
theorem uptoB_succ (ws : List WaitD) (k : Nat) : uptoB ws (k + 1) = uptoB ws k ++ [(ws.length - 1 - k, ws.getD (ws.length - 1 - k) default)] := by simp [uptoB, List.range_succ]
theorem uptoB_len (ws : List WaitD) (k : Nat) : (uptoB ws k).length = k := by simp [uptoB]
def encB2 (x : Nat × WaitD) : Array Value := #[.int .i64 (x.1 : Int), .agg #[.int .i64 x.2.fAt, .string x.2.fText]]

set_option maxHeartbeats 2000000 in
theorem backward1_in (F : Fence) (n : Nat) (h7 : F.fn 169) (hro : F.round = none) (hn : 1 ≤ n) (l Bs n₀ b off cap : Nat) (ws : List WaitD) (hreach : ws.length ≤ 1048576) (hb : b < n₀) (J Jx : List (Nat × WaitD) → World → Prop)
    (hY : ∀ pre x W, J pre W → pre.length < ws.length → YieldAt F (n - 1) Tryz.prog l (encB2 x) W fun e W' =>
      (e = .returned (.bool true) ∧ J (pre ++ [x]) W' ∧ Below n₀ W W') ∨ (e = .returned (.bool false) ∧ Jx (pre ++ [x]) W'))
    (W : World) (hBs : W.cell? ⟨Bs, 0, none⟩ = some (.slice (some ⟨b, off, none⟩) ws.length cap)) (hBn : Bs < n₀) (hc : ∀ j, j < ws.length → W.cell? ⟨b, off + j * 2, none⟩ = some (.int .i64 (ws.getD j default).fAt) ∧ W.cell? ⟨b, off + j * 2 + 1, none⟩ = some (.string (ws.getD j default).fText)) (h0 : J [] W) :
    CallsIn F n Tryz.prog 169 #[.func (.yield l) #[] #[], .pointer (some ⟨Bs, 0, none⟩)] W fun e W' => (∃ v, e = .returned v) ∧
      ((∃ ys, ys = uptoB ws ws.length ∧ J ys W') ∨ (∃ pre, (∃ k, k ≤ ws.length ∧ pre = uptoB ws k) ∧ Jx pre W')) := by
  refine callsIn_of_wp Tryz.func169 rfl h7 ?_ hro
  simp only [Tryz.ntmps169, List.size_toArray, List.length_cons, List.length_nil, Nat.reduceAdd, Nat.reduceSub, Array.replicate_succ, Array.replicate_zero, List.push_toArray, List.append_toArray, List.nil_append, List.cons_append]
  gi_wp2
  gi_loopw [3] (fun i wr => ∃ (m : Nat) (z : Int), m ≤ ws.length ∧ i = .int .i64 z ∧ z = (m : Int) - 1 ∧ J (uptoB ws (ws.length - m)) wr ∧ Below n₀ W wr)
    (fun i _ => ((intOf i) + 1).toNat)
  case atStart => exact ⟨ws.length, _, Nat.le_refl _, rfl, by rfl, by rw [Nat.sub_self]; exact h0, Below.refl _ _⟩
  case round =>
    obtain ⟨m, z, hk, rfl, hz, hJs, hnx⟩ := hrel
    have hBs' := (hnx.cell (p := ⟨Bs, 0, none⟩) hBn).trans hBs
    cases m with
    | zero =>
      have hneg : z < 0 := by omega
      clear hz
      gi_wp2
      go_end0
      exact ⟨⟨_, rfl⟩, .inl ⟨_, rfl, hJs⟩⟩
    | succ m =>
      obtain rfl : z = (m : Int) := by omega
      have hc1 := (hnx.cell (p := ⟨b, off + m * 2, none⟩) hb).trans (hc m (by omega)).1
      have hc2 := (hnx.cell (p := ⟨b, off + m * 2 + 1, none⟩) hb).trans (hc m (by omega)).2
      obtain ⟨fn, tmps, assign, body, hy, hR⟩ := hY _ (m, ws.getD m default) wr hJs (by rw [uptoB_len]; omega)
      have hm : ws.length - 1 - (ws.length - (m + 1)) = m := by omega
      have hnext : uptoB ws (ws.length - (m + 1)) ++ [(m, ws.getD m default)] = uptoB ws (ws.length - m) := by
        rw [show ws.length - m = ws.length - (m + 1) + 1 by omega, uptoB_succ, hm]
      rw [hnext] at hR
      dsimp only [encB2] at hy
      clear hc hnext hm hY
      generalize ws.getD m default = x at hc1 hc2 hy hR
      have hpos : (0 : Int) ≤ (m : Int) := by omega
      clear hz
      gi_wp2
      refine hR.mono ?_
      rintro e W3 (⟨rfl, hJ3, hk3⟩ | ⟨rfl, hJx3⟩)
      · gi_wp2
        go_roundw
        case rel => exact ⟨m, _, by omega, rfl, rfl, hJ3, hnx.trans hk3⟩
        case measure => simp [intOf]
      · gi_wp2
        refine bodyPost_ret (results_none rfl _ _ _) rfl ?_
        exact ⟨⟨_, rfl⟩, .inr ⟨_, ⟨ws.length - m, by omega, rfl⟩, hJx3⟩⟩

theorem backward1_nil_in (F : Fence) (n : Nat) (h7 : F.fn 169) (hro : F.round = none) (l Bs cap : Nat) (ao : Option Addr) (J : List (Nat × WaitD) → World → Prop) (W : World) (hBs : W.cell? ⟨Bs, 0, none⟩ = some (.slice ao 0 cap)) (h0 : J [] W) :
    CallsIn F n Tryz.prog 169 #[.func (.yield l) #[] #[], .pointer (some ⟨Bs, 0, none⟩)] W fun e W' => (∃ v, e = .returned v) ∧ J [] W' := by
  refine callsIn_of_wp Tryz.func169 rfl h7 ?_ hro
  simp only [Tryz.ntmps169, List.size_toArray, List.length_cons, List.length_nil, Nat.reduceAdd, Nat.reduceSub, Array.replicate_succ, Array.replicate_zero, List.push_toArray, List.append_toArray, List.nil_append, List.cons_append]
  gi_wp2
  gi_loopw [3] (fun i wr => (∃ z : Int, z < 0 ∧ i = .int .i64 z) ∧ J [] wr) (fun _ _ => 0)
  case atStart => exact ⟨⟨_, by decide, rfl⟩, h0⟩
  case round =>
    obtain ⟨⟨z, hneg, rfl⟩, hJs⟩ := hrel
    gi_wp2
    go_end0
    exact ⟨⟨_, rfl⟩, hJs⟩
theorem backward_in (F : Fence) (n : Nat) (h5 : F.fn 145) (hro : F.round = none) (a : Option Addr) (len cap : Nat) (w : World) :
    CallsIn F n Tryz.prog 145 #[.slice a len cap] w fun e w' => e = .returned (.func (.func 169) #[] #[.pointer (some ⟨w.heap.size, 0, none⟩)]) ∧ w' = w.alloc (.cells #[.slice a len cap] 92) := by
  refine callsIn_of_wp Tryz.func145 rfl h5 ?_ hro
  simp only [Tryz.ntmps145, List.size_toArray, List.length_cons, List.length_nil, Nat.reduceAdd, Nat.reduceSub, Array.replicate_succ, Array.replicate_zero, List.push_toArray, List.append_toArray, List.nil_append, List.cons_append]
  gi_wp2
  go_ret
  exact ⟨rfl, rfl⟩
theorem backward_stops (F : Fence) (n : Nat) (h7 : F.fn 169) (hro : F.round = none) (hn : 1 ≤ n) (Bs n₀ : Nat) (ao : Option Addr) (cap : Nat) (ws : List WaitD) (hreach : ws.length ≤ 1048576) (w : World) (hBs : Bs < n₀) (hn₀ : n₀ ≤ w.heap.size)
    (hc : w.cell? ⟨Bs, 0, none⟩ = some (.slice ao ws.length cap)) (g off : Nat) (hg : ws.length ≠ 0 → ao = some ⟨g, off, none⟩ ∧ g < n₀) (hI : ∀ j, j < ws.length → w.cell? ⟨g, off + j * 2, none⟩ = some (.int .i64 (ws.getD j default).fAt) ∧ w.cell? ⟨g, off + j * 2 + 1, none⟩ = some (.string (ws.getD j default).fText)) :
    SeqStopsK F n Tryz.prog 169 #[.pointer (some ⟨Bs, 0, none⟩)] encB2 (Below n₀) (fun ys => ys = uptoB ws ws.length) (fun pre => ∃ k, k ≤ ws.length ∧ pre = uptoB ws k) ws.length w := fun l J Jx W hW _ _ hY h0 => by
  have hc' := (hW.cell (p := ⟨Bs, 0, none⟩) (Nat.lt_of_lt_of_le hBs hn₀)).trans hc
  by_cases h : ws.length = 0
  · rw [h] at hc'
    refine (backward1_nil_in F n h7 hro l Bs cap ao J W hc' h0).mono ?_
    rintro e W' ⟨he, hj⟩
    exact ⟨he, .inl ⟨_, rfl, by rw [h]; exact hj⟩⟩
  · obtain ⟨rfl, hgl⟩ := hg h
    exact backward1_in F n h7 hro hn l Bs n₀ g off cap ws hreach hgl J Jx hY W hc' hBs (fun j hj => ⟨(hW.cell (p := ⟨g, off + j * 2, none⟩) (Nat.lt_of_lt_of_le hgl hn₀)).trans (hI j hj).1, (hW.cell (p := ⟨g, off + j * 2 + 1, none⟩) (Nat.lt_of_lt_of_le hgl hn₀)).trans (hI j hj).2⟩) h0
theorem look_none (ws : List WaitD) (m k : Nat) (hk : k ≤ ws.length) (h : ∀ p ∈ uptoB ws k, p.2.fAt ≠ (m : Int)) : lookW (ws.drop (ws.length - k)) m = none := by
  induction k with
  | zero => rw [Nat.sub_zero, List.drop_length]; rfl
  | succ k ih =>
    rw [uptoB_succ] at h
    have h1 := ih (by omega) (fun p hp => h p (List.mem_append_left _ hp))
    have h2 := h _ (List.mem_append_right _ (List.mem_singleton.2 rfl))
    simp only at h2
    rw [lookW_back _ _ _ (by omega), show ws.length - (k + 1) + 1 = ws.length - k by omega, h1]
    simp only
    rw [show ws.length - (k + 1) = ws.length - 1 - k by omega, if_neg h2]

set_option maxHeartbeats 2000000 in
theorem look_any (a0 : Option Addr) (c0 : Nat) (a1 : Option Addr) (c1 : Nat) (d : DiskD) (m : Nat) (w : World) (hm : m < d.fCells.length) (hw : d.fWaits.length ≤ 1048576) (hC : Rd encS 1 w a0 d.fCells.length d.fCells) (hW : Rd WaitD.cells 2 w a1 d.fWaits.length d.fWaits) :
    Calls Tryz.prog 102 #[.agg #[.slice a0 d.fCells.length c0, .slice a1 d.fWaits.length c1, .bool d.fGone], .int .i64 (m : Int)] w fun e w' => e = .returned (.string (d.look m)) ∧ Below w.heap.size w w' := by
  refine (callsIn_wide (n := 5)).1 ?_
  obtain ⟨g0, o0, r0⟩ := hC.opn
  obtain ⟨g1, o1, r1⟩ := hW.opn
  obtain rfl : a0 = some ⟨g0, o0, none⟩ := r0.ao m hm
  have hg0 := (r0.at_ m _ (get_getD (d := ByteArray.empty) hm)).1
  have hcell : w.cell? ⟨g0, o0 + m, none⟩ = some (.string (d.fCells.getD m ByteArray.empty)) := by
    have := (r0.at_ m _ (get_getD (d := ByteArray.empty) hm)).2 0 _ rfl
    simpa using this
  obtain ⟨tl, HT⟩ : ∃ t, d.look m = t := ⟨_, rfl⟩
  rw [HT]
  refine callsIn_of_wp_marks Tryz.func102 rfl trivial ?_ rfl
  simp only [Tryz.ntmps102, List.size_toArray, List.length_cons, List.length_nil, Nat.reduceAdd, Nat.reduceSub, Array.replicate_succ, Array.replicate_zero, List.push_toArray, List.append_toArray, List.nil_append, List.cons_append]
  gi_wp2_with (refine ⟨trivial, ?_⟩; gi_at_call 145; refine (backward_in Fence.wide _ trivial rfl _ _ _ _).mono ?_; rintro e w' ⟨rfl, rfl⟩)
  have blkN : ∀ (W : World) (o : Obj), (W.alloc o).heap[W.heap.size]? = some o := fun W o => World.alloc_heap_new W o
  have blkK : ∀ (W : World) (o : Obj) (k : Nat) (x : Obj), W.heap[k]? = some x → (W.alloc o).heap[k]? = some x := fun W o k x h => (Below.heap_alloc W o k (Array.getElem?_eq_some_iff.1 h).1).trans h
  have hD0 := blkK _ (Obj.cells #[Value.slice a1 d.fWaits.length c1] 92) _ _ (blkK _ (Obj.cells #[Value.string { data := #[] }] 9) _ _ (blkK _ (Obj.cells #[Value.int IntKind.i64 (m : Int)] 3) _ _ (blkN w (Obj.cells #[Value.slice (some ⟨g0, o0, none⟩) d.fCells.length c0, Value.slice a1 d.fWaits.length c1, Value.bool d.fGone] 94))))
  have hM0 := blkK _ (Obj.cells #[Value.slice a1 d.fWaits.length c1] 92) _ _ (blkK _ (Obj.cells #[Value.string { data := #[] }] 9) _ _ (blkN (w.alloc (Obj.cells #[Value.slice (some ⟨g0, o0, none⟩) d.fCells.length c0, Value.slice a1 d.fWaits.length c1, Value.bool d.fGone] 94)) (Obj.cells #[Value.int IntKind.i64 (m : Int)] 3)))
  have hR0 := blkK _ (Obj.cells #[Value.slice a1 d.fWaits.length c1] 92) _ _ (blkN ((w.alloc (Obj.cells #[Value.slice (some ⟨g0, o0, none⟩) d.fCells.length c0, Value.slice a1 d.fWaits.length c1, Value.bool d.fGone] 94)).alloc (Obj.cells #[Value.int IntKind.i64 (m : Int)] 3)) (Obj.cells #[Value.string { data := #[] }] 9))
  have hS0 := blkN (((w.alloc (Obj.cells #[Value.slice (some ⟨g0, o0, none⟩) d.fCells.length c0, Value.slice a1 d.fWaits.length c1, Value.bool d.fGone] 94)).alloc (Obj.cells #[Value.int IntKind.i64 (m : Int)] 3)).alloc (Obj.cells #[Value.string { data := #[] }] 9)) (Obj.cells #[Value.slice a1 d.fWaits.length c1] 92)
  simp only [World.size_alloc] at hM0 hR0 hS0
  have hB0 : Below w.heap.size w ((((w.alloc (Obj.cells #[Value.slice (some ⟨g0, o0, none⟩) d.fCells.length c0, Value.slice a1 d.fWaits.length c1, Value.bool d.fGone] 94)).alloc (Obj.cells #[Value.int IntKind.i64 (m : Int)] 3)).alloc (Obj.cells #[Value.string { data := #[] }] 9)).alloc (Obj.cells #[Value.slice a1 d.fWaits.length c1] 92)) := ((((Below.refl _ w).alloc (Nat.le_refl _) _).alloc (by simp) _).alloc (by simp; omega) _).alloc (by simp; omega) _
  have hsz : ((((w.alloc (Obj.cells #[Value.slice (some ⟨g0, o0, none⟩) d.fCells.length c0, Value.slice a1 d.fWaits.length c1, Value.bool d.fGone] 94)).alloc (Obj.cells #[Value.int IntKind.i64 (m : Int)] 3)).alloc (Obj.cells #[Value.string { data := #[] }] 9)).alloc (Obj.cells #[Value.slice a1 d.fWaits.length c1] 92)).heap.size = w.heap.size + 4 := by simp
  obtain ⟨W0, hW0⟩ : ∃ W0, (((w.alloc (Obj.cells #[Value.slice (some ⟨g0, o0, none⟩) d.fCells.length c0, Value.slice a1 d.fWaits.length c1, Value.bool d.fGone] 94)).alloc (Obj.cells #[Value.int IntKind.i64 (m : Int)] 3)).alloc (Obj.cells #[Value.string { data := #[] }] 9)).alloc (Obj.cells #[Value.slice a1 d.fWaits.length c1] 92) = W0 := ⟨_, rfl⟩
  rw [hW0] at hD0 hM0 hR0 hS0 hB0 hsz ⊢
  clear hW0 blkN blkK
  have hcell0 := (hB0.cell (p := ⟨g0, o0 + m, none⟩) hg0).trans hcell
  have hI : ∀ j, j < d.fWaits.length → W0.cell? ⟨g1, o1 + j * 2, none⟩ = some (.int .i64 (d.fWaits.getD j default).fAt) ∧ W0.cell? ⟨g1, o1 + j * 2 + 1, none⟩ = some (.string (d.fWaits.getD j default).fText) := fun j hj => by
    obtain ⟨h1, h2⟩ := r1.at_ j _ (get_getD (d := default) hj)
    exact ⟨(hB0.cell (p := ⟨g1, o1 + j * 2, none⟩) h1).trans (by simpa using h2 0 _ rfl), (hB0.cell (p := ⟨g1, o1 + j * 2 + 1, none⟩) h1).trans (by simpa using h2 1 _ rfl)⟩
  have hg1 : d.fWaits.length ≠ 0 → a1 = some ⟨g1, o1, none⟩ ∧ g1 < W0.heap.size := fun h => ⟨r1.ao 0 (by omega), by have := (r1.at_ 0 _ (get_getD (d := default) (by omega))).1; omega⟩
  have keepC : ∀ {X Y : World} {row : Option Nat} {k : Nat} {cs : Array Value} {t : TypeId}, X.heap[k]? = some (.cells cs t (0, 0)) → X.grownBy Y row → (∀ r, row = some r → ∃ o : Obj, X.heap[r]? = some o ∧ o.isCells = false) → Y.heap[k]? = some (.cells cs t (0, 0)) := fun h hg hr => (grownBy_keeps_cells hg hr h rfl).trans h
  clear hC hW r0 r1 hcell
  refine wpIn_rangeFunc_ownH rfl (by omega) (gf := 169) (lb := #[.pointer (some ⟨w.heap.size + 1 + 1 + 1, 0, none⟩)]) rfl trivial (enters_of Tryz.func169 (by kernel_rfl) rfl)
    (backward_stops Fence.wide _ trivial rfl (by omega) (w.heap.size + 1 + 1 + 1) W0.heap.size a1 c1 d.fWaits hw W0 (by omega) (Nat.le_refl _) (by simp [World.cell?, hS0]) g1 o1 hg1 hI) belowK_t (belowK_b (Nat.le_refl _)) (Below.refl _ _) (fun _ => rfl)
    (fun pre W => ((∀ p ∈ pre, p.2.fAt ≠ (m : Int)) ∧ W.heap[w.heap.size]? = some (.cells #[Value.slice (some ⟨g0, o0, none⟩) d.fCells.length c0, Value.slice a1 d.fWaits.length c1, Value.bool d.fGone] 94 (0, 0)) ∧ W.heap[w.heap.size + 1]? = some (.cells #[Value.int IntKind.i64 (m : Int)] 3 (0, 0)) ∧ W.heap[w.heap.size + 1 + 1]? = some (.cells #[Value.string { data := #[] }] 9 (0, 0)) ∧ W0.heap.size ≤ W.heap.size) ∧ Below w.heap.size w W)
    (fun c pre W => (c = .ret ∧ ∃ ini last, pre = ini ++ [last] ∧ (∀ p ∈ ini, p.2.fAt ≠ (m : Int)) ∧ last.2.fAt = (m : Int) ∧ Boxed W (w.heap.size + 1 + 1) 9 (.string last.2.fText)) ∧ Below w.heap.size w W)
    (OwnFrom.and (Own.from (fun s A B row hs hg hr => ⟨hs.1, keepC hs.2.1 hg hr, keepC hs.2.2.1 hg hr, keepC hs.2.2.2.1 hg hr, Nat.le_trans hs.2.2.2.2 hg.size⟩) _) (ownFrom_below (Nat.le_refl _) (by omega)))
    (fun c => OwnFrom.and (Own.from (fun s A B row hs hg hr => by obtain ⟨hc, ini, last, e1, e2, e3, e4⟩ := hs; exact ⟨hc, ini, last, e1, e2, e3, keepC e4 hg hr⟩) _) (ownFrom_below (Nat.le_refl _) (by omega)))
    ⟨⟨by simp, hD0, hM0, hR0, Nat.le_refl _⟩, hB0⟩
    (fun x a' W => ∃ Bx, W0.heap.size ≤ Bx ∧ W.heap[Bx]? = some (.cells #[.int .i64 x.2.fAt, .string x.2.fText] 137 (0, 0)) ∧ a' = { tmps := #[Value.agg #[Value.slice (some ⟨g0, o0, none⟩) d.fCells.length c0, Value.slice a1 d.fWaits.length c1, Value.bool d.fGone],
          Value.int IntKind.i64 (m : Int), Value.pointer (some ⟨w.heap.size, 0, none⟩), Value.pointer (some ⟨w.heap.size + 1, 0, none⟩), Value.pointer (some ⟨w.heap.size + 1 + 1, 0, none⟩), undef, Value.pointer (some ⟨Bx, 0, none⟩),
          Value.pointer (some ⟨w.heap.size, 1, none⟩), Value.slice a1 d.fWaits.length c1,
          Value.func (Fn.func 169) #[] #[Value.pointer (some ⟨w.heap.size + 1 + 1 + 1, 0, none⟩)], .int .i64 (x.1 : Int), .agg #[.int .i64 x.2.fAt, .string x.2.fText], undef, undef, undef, undef, undef, undef, undef, undef, undef, undef, undef], defers := [] })
    (fun x a' => Own.from (fun s A B row hs hg hr => by obtain ⟨Bx, h1, h2, h3⟩ := hs; exact ⟨Bx, h1, keepC h2 hg hr, h3⟩) _)
    ?assign ?body ?done ?stop
  case assign =>
    rintro l pre x W K ⟨⟨hp, hD, hM, hR, hZ⟩, hB⟩ hK
    clear hD0 hM0 hR0 hS0 hI hcell0 hg1
    dsimp only [encB2]
    gi_wp2
    have hk : ∀ (k : Nat) (o : Obj), W.heap[k]? = some o → (W.alloc (Obj.cells #[Value.int IntKind.i64 x.snd.fAt, Value.string x.snd.fText] 137)).heap[k]? = some o := fun k o h => (Below.heap_alloc W _ k (Array.getElem?_eq_some_iff.1 h).1).trans h
    exact hK _ _ ((KeepsOthers.alloc _ _).from _) ((Below.refl _ _).alloc hZ _) ⟨⟨hp, hk _ _ hD, hk _ _ hM, hk _ _ hR, by simp; omega⟩, hB.alloc hB.size _⟩ ⟨W.heap.size, hZ, World.alloc_heap_new W _, rfl⟩
  case body =>
    rintro l pre x a' W hl ⟨r, hr⟩ ⟨⟨hp, hD, hM, hR, hZ⟩, hB⟩ ⟨Bx, hBx, hX, rfl⟩ hlt
    clear hD0 hM0 hR0 hS0 hI hcell0 hg1
    have hx0 : W.cell? ⟨Bx, 0, none⟩ = some (.int .i64 x.2.fAt) := by simp [World.cell?, hX]
    have hx1 : W.cell? ⟨Bx, 1, none⟩ = some (.string x.2.fText) := by simp [World.cell?, hX]
    have hm0 : W.cell? ⟨w.heap.size + 1, 0, none⟩ = some (.int .i64 (m : Int)) := by simp [World.cell?, hM]
    have hr0 : W.cell? ⟨w.heap.size + 1 + 1, 0, none⟩ = some (.string { data := #[] }) := by simp [World.cell?, hR]
    have hf0 : W.frozen? ⟨w.heap.size + 1 + 1, 0, none⟩ = false := by simp [World.frozen?, hR]
    gi_wp2
    · have hx : x.2.fAt = (m : Int) := eq_of_beq (by assumption)
      exact ⟨(KeepsOthers.setCell _ _ _).from _, ⟨rfl, pre, x, rfl, hp, hx, Boxed.set _ hR⟩, hB.setCell (p := ⟨w.heap.size + 1 + 1, 0, none⟩) (by show _ ≤ w.heap.size + 1 + 1; omega) _⟩
    · have hx : x.2.fAt ≠ (m : Int) := ne_of_beq_false (by assumption)
      exact ⟨KeepsFrom.refl _ _, Below.refl _ _, ⟨fun p hp' => (List.mem_append.1 hp').elim (hp p) (fun e => by simp at e; subst e; exact hx), hD, hM, hR, hZ⟩, hB⟩
  case done =>
    rintro D ys W hD rfl ⟨⟨hp, hDk, hM, hR, hZ⟩, hB⟩ hK
    have hl := look_none d.fWaits m d.fWaits.length (Nat.le_refl _) hp
    rw [Nat.sub_self, List.drop_zero] at hl
    have hlook : tl = d.fCells.getD m ByteArray.empty := by rw [← HT]; unfold DiskD.look; rw [hl]; rfl
    rw [← hlook] at hcell0
    clear hD0 hM0 hR0 hS0 hI hg1 hp hl hlook HT
    have hd0 : W.cell? ⟨w.heap.size, 0, none⟩ = some (Value.slice (some ⟨g0, o0, none⟩) d.fCells.length c0) := by simp [World.cell?, hDk]
    have hm0 : W.cell? ⟨w.heap.size + 1, 0, none⟩ = some (.int .i64 (m : Int)) := by simp [World.cell?, hM]
    have hr0 : W.cell? ⟨w.heap.size + 1 + 1, 0, none⟩ = some (.string { data := #[] }) := by simp [World.cell?, hR]
    have hf0 : W.frozen? ⟨w.heap.size + 1 + 1, 0, none⟩ = false := by simp [World.frozen?, hR]
    have hc0 : W.cell? ⟨g0, o0 + m, none⟩ = some (.string tl) := ((hB.cell (p := ⟨g0, o0 + m, none⟩) hg0).trans (hB0.cell (p := ⟨g0, o0 + m, none⟩) hg0).symm).trans hcell0
    clear hcell0
    gi_wp2
    have hK' := (KeepsOthers.setCell W ⟨w.heap.size + 1 + 1, 0, none⟩ (.string tl)).same D _ hK rfl
    refine ⟨by simp, .inl ⟨_, _, rfl, run_takeDeferred hK', ?_⟩⟩
    have hc5 := cell_kept (World.cell?_setCell_same' W ⟨w.heap.size + 1 + 1, 0, none⟩ (.string tl) (by rw [hr0]; rfl)) (grownBy_putObj' _ D (.deferred none)) (fun r e => by cases e; exact ⟨_, hK', rfl⟩)
    refine ⟨.string tl, ?_, rfl, (hB.setCell (p := ⟨w.heap.size + 1 + 1, 0, none⟩) (by show _ ≤ w.heap.size + 1 + 1; omega) _).trans (belowK_b (w := w) (Nat.le_refl _) _ D _ _ (by omega) hK' rfl rfl)⟩
    simp [results, Tryz.f102, go_sem, hc5]
  case stop =>
    rintro D c pre W hD ⟨k, hk, rfl⟩ ⟨⟨rfl, ini, last, e1, e2, e3, hcr⟩, hB⟩ hK
    have hlook : tl = last.2.fText := by
      rw [← HT]
      cases k with
      | zero => simp [uptoB] at e1
      | succ k =>
        rw [uptoB_succ] at e1
        obtain ⟨rfl, e5⟩ := List.append_inj' e1 rfl
        obtain rfl : (d.fWaits.length - 1 - k, d.fWaits.getD (d.fWaits.length - 1 - k) default) = last := by simpa using e5
        have hl := look_none d.fWaits m k (by omega) e2
        have hf : lookW d.fWaits m = some (d.fWaits.getD (d.fWaits.length - 1 - k) default).fText := by
          refine lookW_found _ _ (d.fWaits.length - 1 - k) _ ?_
          rw [lookW_back _ _ _ (by omega), show d.fWaits.length - 1 - k + 1 = d.fWaits.length - k by omega, hl]
          simp only at e3 ⊢
          rw [if_pos e3]
        unfold DiskD.look
        rw [hf]; rfl
    rw [← hlook] at hcr
    clear hD0 hM0 hR0 hS0 hI hg1 e1 e2 e3 hlook HT
    have hcc := hcr.cell
    gi_wp2
    refine ⟨by simp, .inl ⟨_, _, rfl, run_takeDeferred hK, ?_⟩⟩
    have hc5 := cell_kept hcc (grownBy_putObj' _ D (.deferred none)) (fun r e => by cases e; exact ⟨_, hK, rfl⟩)
    refine ⟨_, ?_, rfl, hB.trans (belowK_b (w := w) (Nat.le_refl _) W D _ _ (by omega) hK rfl rfl)⟩
    simp [results, Tryz.f102, go_sem, hc5]
end Go.Proofs.YtoaopmkbfifhaaaGreatDoor

/- Disks in rows; the first place at which a function says yes. -/
namespace Go.Proofs.YtoaopmkbfifhaaaGreatDoor
set_option linter.unusedVariables false
set_option linter.unusedSimpArgs false
set_option maxHeartbeats 1000000
set_option maxRecDepth 100000
open Go.RowKit

/-- A disk's header beside its datum. -/
structure HD where
  a0 : Option Addr
  c0 : Nat
  a1 : Option Addr
  c1 : Nat
  d : DiskD
def HD.cells (p : HD) : List Value := [.slice p.a0 p.d.fCells.length p.c0, .slice p.a1 p.d.fWaits.length p.c1, .bool p.d.fGone]
theorem HD.cells_len (p : HD) : p.cells.length = 3 := rfl
instance : Inhabited DiskD := ⟨⟨[], [], false⟩⟩
instance : Inhabited HD := ⟨⟨none, 0, none, 0, default⟩⟩
structure HD.reads (w : World) (p : HD) : Prop where
  rc : Rd encS 1 w p.a0 p.d.fCells.length p.d.fCells
  rw : Rd WaitD.cells 2 w p.a1 p.d.fWaits.length p.d.fWaits
theorem HD.reads.below {w w' : World} {p : HD} (h : p.reads w) (hb : Below w.heap.size w w') : p.reads w' := ⟨h.rc.below hb, h.rw.below hb⟩
def HD.asr (p : HD) : Asr := sepA [rowA encS 1 9 (.slice p.a0 p.d.fCells.length p.c0) p.d.fCells, rowA WaitD.cells 2 137 (.slice p.a1 p.d.fWaits.length p.c1) p.d.fWaits]

theorem indexFuncW_any (a0 : Option Addr) (c0 : Nat) (xs : List WaitD) (f : FuncId) (caps : Array Value) (p : Nat → Bool) (w0 : World) (hl : xs.length ≤ 1048576) (HE : ∀ (args : Array Value) (w : World), (callFunc f args).run Tryz.prog w = .ok (.enter f args) w) (hR : Rd WaitD.cells 2 w0 a0 xs.length xs) (hf : ∀ k, k < xs.length → ∀ w, Below w0.heap.size w0 w → Calls Tryz.prog f (#[] ++ #[.agg #[.int .i64 ((xs.getD k default).fAt), .string ((xs.getD k default).fText)]] ++ caps) w fun e w' => e = .returned (.bool (p k)) ∧ Below w.heap.size w w') : Calls Tryz.prog 152 #[.slice a0 xs.length c0, .func (.func f) #[] caps] w0 fun e w' => e = .returned (.int .i64 (idxB p xs.length 0)) ∧ Below w0.heap.size w0 w' := by
 have HR := Bx.mk hR; have HF0 := Bx.mk hf; clear hR hf
 have HS := Bx.mk (St.start w0)
 refine wc_enter Tryz.func152 rfl Tryz.ntmps152 [(0, .slice a0 xs.length c0), (1, .func (.func f) #[] caps)] ⟨rfl, rfl, trivial⟩ rfl ?_; intro a HF
 refine wp_sr ?_
 refine za HF ?_; clear HF a; intro a HF
 refine wl_ne ?_
 refine wp_seq ?_
 refine wp_sr ?_
 refine zm HF ?_; clear HF a; intro a HF
 refine zy HF (yl_lenL (e := 137) (size := 2) rfl (HF.ev rfl) (by kernel_rfl)) ?_; clear HF a; intro a HF
 refine zm HF ?_; clear HF a; intro a HF
 refine wl_ne ?_
 refine wp_block ?_
 refine wc_loop (ι := Nat) (fun k a w => (k ≤ xs.length ∧ idxB p xs.length 0 = idxB p xs.length k) ∧ Fr 19 a [(0, .slice a0 xs.length c0), (1, .func (.func f) #[] caps), (7, .int .i64 (xs.length : Int)), (8, .int .i64 (k : Int))] ∧ St w0 ([]) w) (fun k => xs.length - k) 0 ⟨⟨Nat.zero_le _, rfl⟩, HF.less _ ⟨rfl, rfl, rfl, rfl, trivial⟩, HS.out⟩ ?_
 clear HF HS; clear a
 rintro k a w1 ⟨⟨hk, hf⟩, HF, HS⟩
 replace HS := Bx.mk HS
 refine wp_sr ?_
 refine zy HF (yl_lssI rfl (HF.ev rfl) (HF.ev rfl)) ?_; clear HF a; intro a HF
 refine wl_ne ?_
 refine wp_seq ?_
 refine HF.cases 9 rfl (fun cc1 _ => ?_) fun cc1 _ => ?_
 ·clear HF;rename_i HF
  have dcc1 := of_decide_eq_true cc1
  refine wc_true HF rfl ?_
  refine wp_skip ?_
  refine ex_then ?_
  refine wp_seq ?_
  refine wp_block ?_
  refine wp_sr ?_
  refine zm HF ?_; clear HF a; intro a HF
  refine za HF ?_; clear HF a; intro a HF
  refine wl_ne ?_
  refine wp_seq ?_
  obtain ⟨g0, o0, r0⟩ := HR.out.opn; have R0 := Bx.mk r0; clear r0
  refine wp_region_lit ?_
  refine zm HF ?_; clear HF a; intro a HF
  refine zm HF ?_; clear HF a; intro a HF
  refine zm HF ?_; clear HF a; intro a HF
  refine zy HF (yl_indexAddrR (e := 137) (i := k) (size := 2) rfl (HF.ev rfl) (HF.ev rfl) (by kernel_rfl) rfl (by omega) (R0.out.ao k (by omega))) ?_; clear HF a; intro a HF
  refine zy HF (ylr (cs := [.int .i64 ((xs.getD k default).fAt), .string ((xs.getD k default).fText)]) rfl (HF.ev rfl) (R0.out.elem HS.out (get_getD (xs := xs) (j := k) (d := default) (by omega)))) ?_; clear HF a; intro a HF
  refine wl_callvB rfl HF rfl (HF.ev rfl) HE (args := #[.agg #[.int .i64 ((xs.getD k default).fAt), .string ((xs.getD k default).fText)]]) rfl (v := .bool (p k)) (HF0.out k (by omega) _ HS.out.bel) rfl rfl HS.out ?_; clear HF HS a; intro w2 a HS HF; replace HS := Bx.mk HS
  refine wl_ne ?_
  refine HF.cases 16 rfl (fun cc2 _ => ?_) fun cc2 _ => ?_
  ·clear HF;rename_i HF
   refine wc_true HF rfl ?_
   refine wp_sr ?_
   refine zm HF ?_; clear HF a; intro a HF
   refine za HF ?_; clear HF a; intro a HF
   refine wl_ne ?_
   refine wp_ret ?_
   refine ex_block_ret ?_
   refine ex_then_ret ?_
   refine ex_then_ret ?_
   refine ex_block_ret ?_
   refine ex_then_ret ?_
   refine bp_ret1 HF Tryz.results152 (HF.res rfl) ?_
   rw [idxB_lt (k := k) (by omega), if_pos cc2] at hf
   exact ⟨by rw [hf], HS.out.bel⟩
  ·clear HF;rename_i HF
   refine wc_false HF rfl ?_
   refine wp_skip ?_
   refine ex_block ?_
   refine ex_then ?_
   refine wp_region_lit ?_
   refine zy HF (yl_addI rfl (HF.ev rfl) (HF.ev rfl) (i64w (by omega))) ?_; clear HF a; intro a HF
   refine zm HF ?_; clear HF a; intro a HF
   refine wl_ne ?_
   rw [idxB_lt (k := k) (by omega), if_neg (by rw [cc2]; simp)] at hf
   exact ⟨k + 1, ⟨⟨by omega, hf⟩, HF.less _ ⟨rfl, rfl, rfl, rfl, trivial⟩, HS.out⟩, (by omega)⟩
 ·clear HF;rename_i HF
  have dcc1 := of_decide_eq_false cc1
  refine wc_false HF rfl ?_
  refine wp_exit ?_
  refine ex_then_exit ?_
  refine ex_then_exit ?_
  refine ex_block_hit ?_
  refine ex_then ?_
  refine wp_sr ?_
  refine za HF ?_; clear HF a; intro a HF
  refine wl_ne ?_
  refine wp_ret ?_
  refine bp_ret1 HF Tryz.results152 (HF.res rfl) ?_
  rw [idxB_end (k := k) (by omega)] at hf
  exact ⟨by rw [hf], HS.out.bel⟩

theorem containsFuncW_any (a0 : Option Addr) (c0 : Nat) (xs : List WaitD) (f : FuncId) (caps : Array Value) (p : Nat → Bool) (w0 : World) (hl : xs.length ≤ 1048576) (HE : ∀ (args : Array Value) (w : World), (callFunc f args).run Tryz.prog w = .ok (.enter f args) w) (hR : Rd WaitD.cells 2 w0 a0 xs.length xs) (hf : ∀ k, k < xs.length → ∀ w, Below w0.heap.size w0 w → Calls Tryz.prog f (#[] ++ #[.agg #[.int .i64 ((xs.getD k default).fAt), .string ((xs.getD k default).fText)]] ++ caps) w fun e w' => e = .returned (.bool (p k)) ∧ Below w.heap.size w w') : Calls Tryz.prog 117 #[.slice a0 xs.length c0, .func (.func f) #[] caps] w0 fun e w' => e = .returned (.bool (!allB (fun k => !p k) xs.length)) ∧ Below w0.heap.size w0 w' := by
 have HR := Bx.mk hR; have HF0 := Bx.mk hf; clear hR hf
 have HS := Bx.mk (St.start w0)
 refine wc_enter Tryz.func117 rfl Tryz.ntmps117 [(0, .slice a0 xs.length c0), (1, .func (.func f) #[] caps)] ⟨rfl, rfl, trivial⟩ rfl ?_; intro a HF
 refine wp_sr ?_
 refine za HF ?_; clear HF a; intro a HF
 refine wl_ne ?_
 refine wp_sr ?_
 refine zm HF ?_; clear HF a; intro a HF
 refine zm HF ?_; clear HF a; intro a HF
 refine wl_callB rfl HF rfl (enter_of Tryz.func152 (by kernel_rfl) rfl) (args := #[.slice a0 xs.length c0, .func (.func f) #[] caps]) rfl (v := .int .i64 (idxB p xs.length 0)) (indexFuncW_any a0 c0 xs f caps p _ hl HE (HR.out.below HS.out.bel) (fun k hk w hb => HF0.out k hk w (HS.out.bel.trans (hb.mono HS.out.bel.size)))) rfl rfl HS.out ?_; clear HF HS a; intro w1 a HS HF; replace HS := Bx.mk HS
 refine zy HF (yl_geqI rfl (HF.ev rfl) (HF.ev rfl)) ?_; clear HF a; intro a HF
 refine za HF ?_; clear HF a; intro a HF
 refine wl_ne ?_
 refine wp_ret ?_
 refine bp_ret1 HF Tryz.results117 (HF.res rfl) ?_
 exact ⟨by rw [← idxB_any], HS.out.bel⟩

theorem indexFuncD_any (a0 : Option Addr) (c0 : Nat) (xs : List HD) (f : FuncId) (caps : Array Value) (p : Nat → Bool) (w0 : World) (hl : xs.length ≤ 1048576) (HE : ∀ (args : Array Value) (w : World), (callFunc f args).run Tryz.prog w = .ok (.enter f args) w) (hR : Rd HD.cells 3 w0 a0 xs.length xs) (hf : ∀ k, k < xs.length → ∀ w, Below w0.heap.size w0 w → Calls Tryz.prog f (#[] ++ #[.agg #[.slice ((xs.getD k default).a0) ((xs.getD k default).d.fCells.length) ((xs.getD k default).c0), .slice ((xs.getD k default).a1) ((xs.getD k default).d.fWaits.length) ((xs.getD k default).c1), .bool ((xs.getD k default).d.fGone)]] ++ caps) w fun e w' => e = .returned (.bool (p k)) ∧ Below w.heap.size w w') : Calls Tryz.prog 116 #[.slice a0 xs.length c0, .func (.func f) #[] caps] w0 fun e w' => e = .returned (.int .i64 (idxB p xs.length 0)) ∧ Below w0.heap.size w0 w' := by
 have HR := Bx.mk hR; have HF0 := Bx.mk hf; clear hR hf
 have HS := Bx.mk (St.start w0)
 refine wc_enter Tryz.func116 rfl Tryz.ntmps116 [(0, .slice a0 xs.length c0), (1, .func (.func f) #[] caps)] ⟨rfl, rfl, trivial⟩ rfl ?_; intro a HF
 refine wp_sr ?_
 refine za HF ?_; clear HF a; intro a HF
 refine wl_ne ?_
 refine wp_seq ?_
 refine wp_sr ?_
 refine zm HF ?_; clear HF a; intro a HF
 refine zy HF (yl_lenL (e := 94) (size := 3) rfl (HF.ev rfl) (by kernel_rfl)) ?_; clear HF a; intro a HF
 refine zm HF ?_; clear HF a; intro a HF
 refine wl_ne ?_
 refine wp_block ?_
 refine wc_loop (ι := Nat) (fun k a w => (k ≤ xs.length ∧ idxB p xs.length 0 = idxB p xs.length k) ∧ Fr 19 a [(0, .slice a0 xs.length c0), (1, .func (.func f) #[] caps), (7, .int .i64 (xs.length : Int)), (8, .int .i64 (k : Int))] ∧ St w0 ([]) w) (fun k => xs.length - k) 0 ⟨⟨Nat.zero_le _, rfl⟩, HF.less _ ⟨rfl, rfl, rfl, rfl, trivial⟩, HS.out⟩ ?_
 clear HF HS; clear a
 rintro k a w1 ⟨⟨hk, hf⟩, HF, HS⟩
 replace HS := Bx.mk HS
 refine wp_sr ?_
 refine zy HF (yl_lssI rfl (HF.ev rfl) (HF.ev rfl)) ?_; clear HF a; intro a HF
 refine wl_ne ?_
 refine wp_seq ?_
 refine HF.cases 9 rfl (fun cc1 _ => ?_) fun cc1 _ => ?_
 ·clear HF;rename_i HF
  have dcc1 := of_decide_eq_true cc1
  refine wc_true HF rfl ?_
  refine wp_skip ?_
  refine ex_then ?_
  refine wp_seq ?_
  refine wp_block ?_
  refine wp_sr ?_
  refine zm HF ?_; clear HF a; intro a HF
  refine za HF ?_; clear HF a; intro a HF
  refine wl_ne ?_
  refine wp_seq ?_
  obtain ⟨g0, o0, r0⟩ := HR.out.opn; have R0 := Bx.mk r0; clear r0
  refine wp_region_lit ?_
  refine zm HF ?_; clear HF a; intro a HF
  refine zm HF ?_; clear HF a; intro a HF
  refine zm HF ?_; clear HF a; intro a HF
  refine zy HF (yl_indexAddrR (e := 94) (i := k) (size := 3) rfl (HF.ev rfl) (HF.ev rfl) (by kernel_rfl) rfl (by omega) (R0.out.ao k (by omega))) ?_; clear HF a; intro a HF
  refine zy HF (ylr (cs := [.slice ((xs.getD k default).a0) ((xs.getD k default).d.fCells.length) ((xs.getD k default).c0), .slice ((xs.getD k default).a1) ((xs.getD k default).d.fWaits.length) ((xs.getD k default).c1), .bool ((xs.getD k default).d.fGone)]) rfl (HF.ev rfl) (R0.out.elem HS.out (get_getD (xs := xs) (j := k) (d := default) (by omega)))) ?_; clear HF a; intro a HF
  refine wl_callvB rfl HF rfl (HF.ev rfl) HE (args := #[.agg #[.slice ((xs.getD k default).a0) ((xs.getD k default).d.fCells.length) ((xs.getD k default).c0), .slice ((xs.getD k default).a1) ((xs.getD k default).d.fWaits.length) ((xs.getD k default).c1), .bool ((xs.getD k default).d.fGone)]]) rfl (v := .bool (p k)) (HF0.out k (by omega) _ HS.out.bel) rfl rfl HS.out ?_; clear HF HS a; intro w2 a HS HF; replace HS := Bx.mk HS
  refine wl_ne ?_
  refine HF.cases 16 rfl (fun cc2 _ => ?_) fun cc2 _ => ?_
  ·clear HF;rename_i HF
   refine wc_true HF rfl ?_
   refine wp_sr ?_
   refine zm HF ?_; clear HF a; intro a HF
   refine za HF ?_; clear HF a; intro a HF
   refine wl_ne ?_
   refine wp_ret ?_
   refine ex_block_ret ?_
   refine ex_then_ret ?_
   refine ex_then_ret ?_
   refine ex_block_ret ?_
   refine ex_then_ret ?_
   refine bp_ret1 HF Tryz.results116 (HF.res rfl) ?_
   rw [idxB_lt (k := k) (by omega), if_pos cc2] at hf
   exact ⟨by rw [hf], HS.out.bel⟩
  ·clear HF;rename_i HF
   refine wc_false HF rfl ?_
   refine wp_skip ?_
   refine ex_block ?_
   refine ex_then ?_
   refine wp_region_lit ?_
   refine zy HF (yl_addI rfl (HF.ev rfl) (HF.ev rfl) (i64w (by omega))) ?_; clear HF a; intro a HF
   refine zm HF ?_; clear HF a; intro a HF
   refine wl_ne ?_
   rw [idxB_lt (k := k) (by omega), if_neg (by rw [cc2]; simp)] at hf
   exact ⟨k + 1, ⟨⟨by omega, hf⟩, HF.less _ ⟨rfl, rfl, rfl, rfl, trivial⟩, HS.out⟩, (by omega)⟩
 ·clear HF;rename_i HF
  have dcc1 := of_decide_eq_false cc1
  refine wc_false HF rfl ?_
  refine wp_exit ?_
  refine ex_then_exit ?_
  refine ex_then_exit ?_
  refine ex_block_hit ?_
  refine ex_then ?_
  refine wp_sr ?_
  refine za HF ?_; clear HF a; intro a HF
  refine wl_ne ?_
  refine wp_ret ?_
  refine bp_ret1 HF Tryz.results116 (HF.res rfl) ?_
  rw [idxB_end (k := k) (by omega)] at hf
  exact ⟨by rw [hf], HS.out.bel⟩

theorem containsFuncD_any (a0 : Option Addr) (c0 : Nat) (xs : List HD) (f : FuncId) (caps : Array Value) (p : Nat → Bool) (w0 : World) (hl : xs.length ≤ 1048576) (HE : ∀ (args : Array Value) (w : World), (callFunc f args).run Tryz.prog w = .ok (.enter f args) w) (hR : Rd HD.cells 3 w0 a0 xs.length xs) (hf : ∀ k, k < xs.length → ∀ w, Below w0.heap.size w0 w → Calls Tryz.prog f (#[] ++ #[.agg #[.slice ((xs.getD k default).a0) ((xs.getD k default).d.fCells.length) ((xs.getD k default).c0), .slice ((xs.getD k default).a1) ((xs.getD k default).d.fWaits.length) ((xs.getD k default).c1), .bool ((xs.getD k default).d.fGone)]] ++ caps) w fun e w' => e = .returned (.bool (p k)) ∧ Below w.heap.size w w') : Calls Tryz.prog 71 #[.slice a0 xs.length c0, .func (.func f) #[] caps] w0 fun e w' => e = .returned (.bool (!allB (fun k => !p k) xs.length)) ∧ Below w0.heap.size w0 w' := by
 have HR := Bx.mk hR; have HF0 := Bx.mk hf; clear hR hf
 have HS := Bx.mk (St.start w0)
 refine wc_enter Tryz.func71 rfl Tryz.ntmps71 [(0, .slice a0 xs.length c0), (1, .func (.func f) #[] caps)] ⟨rfl, rfl, trivial⟩ rfl ?_; intro a HF
 refine wp_sr ?_
 refine za HF ?_; clear HF a; intro a HF
 refine wl_ne ?_
 refine wp_sr ?_
 refine zm HF ?_; clear HF a; intro a HF
 refine zm HF ?_; clear HF a; intro a HF
 refine wl_callB rfl HF rfl (enter_of Tryz.func116 (by kernel_rfl) rfl) (args := #[.slice a0 xs.length c0, .func (.func f) #[] caps]) rfl (v := .int .i64 (idxB p xs.length 0)) (indexFuncD_any a0 c0 xs f caps p _ hl HE (HR.out.below HS.out.bel) (fun k hk w hb => HF0.out k hk w (HS.out.bel.trans (hb.mono HS.out.bel.size)))) rfl rfl HS.out ?_; clear HF HS a; intro w1 a HS HF; replace HS := Bx.mk HS
 refine zy HF (yl_geqI rfl (HF.ev rfl) (HF.ev rfl)) ?_; clear HF a; intro a HF
 refine za HF ?_; clear HF a; intro a HF
 refine wl_ne ?_
 refine wp_ret ?_
 refine bp_ret1 HF Tryz.results71 (HF.res rfl) ?_
 exact ⟨by rw [← idxB_any], HS.out.bel⟩

end Go.Proofs.YtoaopmkbfifhaaaGreatDoor

/- Disks that are valid, by the program; sets of disks. -/
namespace Go.Proofs.YtoaopmkbfifhaaaGreatDoor
set_option linter.unusedVariables false
set_option linter.unusedSimpArgs false
set_option maxHeartbeats 1000000
set_option maxRecDepth 100000
open Go.RowKit

theorem isCell_any (n : Int) (w0 : World) : Calls Tryz.prog 119 #[.int .i64 n] w0 fun e w' => e = .returned (.bool (inB n 0 63)) ∧ Below w0.heap.size w0 w' := by
 have HS := Bx.mk (St.start w0)
 refine wc_enter Tryz.func119 rfl Tryz.ntmps119 [(0, .int .i64 n)] ⟨rfl, trivial⟩ rfl ?_; intro a HF
 refine wp_sr ?_
 refine za HF ?_; clear HF a; intro a HF
 refine wl_ne ?_
 refine wp_sr ?_
 refine zm HF ?_; clear HF a; intro a HF
 refine wl_callB rfl HF rfl (enter_of Tryz.func52 (by kernel_rfl) rfl) (args := #[.int .i64 n, .int .i64 0, .int .i64 63]) rfl (v := .bool (inB n 0 63)) (((within_any n 0 63 _).mono fun _ _ h => ⟨h.1, h.2 ▸ Below.refl _ _⟩)) rfl rfl HS.out ?_; clear HF HS a; intro w1 a HS HF; replace HS := Bx.mk HS
 refine za HF ?_; clear HF a; intro a HF
 refine wl_ne ?_
 refine wp_ret ?_
 refine bp_ret1 HF Tryz.results119 (HF.res rfl) ?_
 exact ⟨rfl, HS.out.bel⟩

def badWaitF (n : Int) (t : ByteArray) : Bool := (bif !(inB n 0 63) then true else (decide ((200 : Int) < (t.size : Int))))

theorem badWaitF_any (n : Int) (t : ByteArray) (w0 : World) (ht : t.size ≤ 9223372036854775807) : Calls Tryz.prog 118 #[.agg #[.int .i64 n, .string t]] w0 fun e w' => e = .returned (.bool (badWaitF n t)) ∧ Below w0.heap.size w0 w' := by
 have HS := Bx.mk (St.start w0)
 refine wc_enter Tryz.func118 rfl Tryz.ntmps118 [(0, .agg #[.int .i64 n, .string t])] ⟨rfl, trivial⟩ rfl ?_; intro a HF
 refine wp_sr ?_
 refine wl_box rfl HF rfl (HF.ev rfl) (Z := [.int .i64 n, .string t]) rfl rfl rfl rfl HS.out ?_; clear HF HS a; intro a w1 b1 HF HS; replace HS := Bx.mk HS
 refine za HF ?_; clear HF a; intro a HF
 refine wl_ne ?_
 refine wp_sr ?_
 refine zy HF (yfa 0 rfl (HF.ev rfl)) ?_; clear HF a; intro a HF
 refine zy HF (ylo (v := .int .i64 n) rfl (HF.ev rfl) (((HS.out.box 0 rfl).cell 0).trans rfl)) ?_; clear HF a; intro a HF
 refine wl_callB rfl HF rfl (enter_of Tryz.func119 (by kernel_rfl) rfl) (args := #[.int .i64 n]) rfl (v := .bool (inB n 0 63)) (isCell_any n _) rfl rfl HS.out ?_; clear HF HS a; intro w2 a HS HF; replace HS := Bx.mk HS
 refine zy HF (yl_not rfl (HF.ev rfl)) ?_; clear HF a; intro a HF
 refine zm HF ?_; clear HF a; intro a HF
 refine HF.cases 7 rfl (fun cc1 _ => ?_) fun cc1 _ => ?_
 ·clear HF;rename_i HF
  refine zk HF ?_; clear HF a; intro a HF
  refine zk HF ?_; clear HF a; intro a HF
  refine zk HF ?_; clear HF a; intro a HF
  refine zk HF ?_; clear HF a; intro a HF
  refine zy HF (yl_pick_t rfl (HF.ev rfl) (HF.ev rfl)) ?_; clear HF a; intro a HF
  refine za HF ?_; clear HF a; intro a HF
  refine wl_ne ?_
  refine wp_ret ?_
  refine bp_ret1 HF Tryz.results118 (HF.res rfl) ?_
  exact ⟨by simp only [badWaitF, cc1, cond_true, cond_false], HS.out.bel⟩
 ·clear HF;rename_i HF
  refine zg HF (yfa 1 rfl (HF.ev rfl)) ?_; clear HF a; intro a HF
  refine zg HF (ylo (v := .string t) rfl (HF.ev rfl) (((HS.out.box 0 rfl).cell 1).trans rfl)) ?_; clear HF a; intro a HF
  refine zg HF (yl_lenS rfl (HF.ev rfl) (by kernel_rfl)) ?_; clear HF a; intro a HF
  refine zg HF (yl_gtrI rfl (HF.ev rfl) (HF.ev rfl)) ?_; clear HF a; intro a HF
  refine zy HF (yl_pick_f rfl (HF.ev rfl) (HF.ev rfl)) ?_; clear HF a; intro a HF
  refine za HF ?_; clear HF a; intro a HF
  refine wl_ne ?_
  refine wp_ret ?_
  refine bp_ret1 HF Tryz.results118 (HF.res rfl) ?_
  exact ⟨by simp only [badWaitF, cc1, cond_true, cond_false], HS.out.bel⟩

theorem badWaitF_eq (d : DiskD) (k : Nat) : badWaitF (d.fWaits.getD k default).fAt (d.fWaits.getD k default).fText = !waitB d k := by
  have e : decide ((200 : Int) < ((d.fWaits.getD k default).fText.size : Int)) = !decide ((d.fWaits.getD k default).fText.size ≤ 200) := by
    by_cases h : (d.fWaits.getD k default).fText.size ≤ 200
    · rw [decide_eq_false (by omega), decide_eq_true h]; rfl
    · rw [decide_eq_true (by omega), decide_eq_false h]; rfl
  unfold badWaitF waitB
  rw [e]
  cases inB (d.fWaits.getD k default).fAt 0 63 <;> cases decide ((d.fWaits.getD k default).fText.size ≤ 200) <;> rfl

theorem implDiskOk_any (a0 : Option Addr) (c0 : Nat) (a1 : Option Addr) (c1 : Nat) (d : DiskD) (w0 : World) (hc : d.fCells.length ≤ 1048576) (hw : d.fWaits.length ≤ 1048576) (hcz : ∀ k, (d.fCells.getD k ByteArray.empty).size ≤ 9223372036854775807) (hx : ∀ k, (d.fWaits.getD k default).fText.size ≤ 9223372036854775807) (hC : Rd encS 1 w0 a0 d.fCells.length d.fCells) (hW : Rd WaitD.cells 2 w0 a1 d.fWaits.length d.fWaits) : Calls Tryz.prog 73 #[.agg #[.slice a0 d.fCells.length c0, .slice a1 d.fWaits.length c1, .bool d.fGone]] w0 fun e w' => e = .returned (.bool d.ok) ∧ Below w0.heap.size w0 w' := by
 have HC := Bx.mk hC; clear hC
 have HW := Bx.mk hW; clear hW
 have HS := Bx.mk (St.start w0)
 refine wc_enter Tryz.func73 rfl Tryz.ntmps73 [(0, .agg #[.slice a0 d.fCells.length c0, .slice a1 d.fWaits.length c1, .bool d.fGone])] ⟨rfl, trivial⟩ rfl ?_; intro a HF
 refine wp_sr ?_
 refine wl_box rfl HF rfl (HF.ev rfl) (Z := [.slice a0 d.fCells.length c0, .slice a1 d.fWaits.length c1, .bool d.fGone]) rfl rfl rfl rfl HS.out ?_; clear HF HS a; intro a w1 b1 HF HS; replace HS := Bx.mk HS
 refine za HF ?_; clear HF a; intro a HF
 refine wl_ne ?_
 refine wp_seq ?_
 refine wp_sr ?_
 refine zy HF (yfa 0 rfl (HF.ev rfl)) ?_; clear HF a; intro a HF
 refine zy HF (ylo (v := .slice a0 d.fCells.length c0) rfl (HF.ev rfl) (((HS.out.box 0 rfl).cell 0).trans rfl)) ?_; clear HF a; intro a HF
 refine zy HF (yl_lenL (e := 9) (size := 1) rfl (HF.ev rfl) (by kernel_rfl)) ?_; clear HF a; intro a HF
 refine zy HF (yl_neqI rfl (HF.ev rfl) (HF.ev rfl)) ?_; clear HF a; intro a HF
 refine zm HF ?_; clear HF a; intro a HF
 refine HF.cases 9 rfl (fun cc1 _ => ?_) fun cc1 _ => ?_
 ·clear HF;rename_i HF
  have q1 : decide (d.fCells.length = 64) = false := decide_eq_false (by have := bne_iff_ne.1 cc1; omega)
  refine zk HF ?_; clear HF a; intro a HF
  refine zk HF ?_; clear HF a; intro a HF
  refine zk HF ?_; clear HF a; intro a HF
  refine zk HF ?_; clear HF a; intro a HF
  refine zy HF (yl_pick_t rfl (HF.ev rfl) (HF.ev rfl)) ?_; clear HF a; intro a HF
  refine wl_ne ?_
  refine wc_true HF rfl ?_
  refine wp_sr ?_
  refine za HF ?_; clear HF a; intro a HF
  refine wl_ne ?_
  refine wp_ret ?_
  refine ex_then_ret ?_
  refine bp_ret1 HF Tryz.results73 (HF.res rfl) ?_
  have hok : d.ok = false := by unfold DiskD.ok; rw [q1]; simp
  exact ⟨by rw [hok], HS.out.bel⟩
 ·clear HF;rename_i HF
  have q1 : decide (d.fCells.length = 64) = true := decide_eq_true (by have := bne_eq_false_iff_eq.1 cc1; omega)
  refine zg HF (yfa 1 rfl (HF.ev rfl)) ?_; clear HF a; intro a HF
  refine zg HF (ylo (v := .slice a1 d.fWaits.length c1) rfl (HF.ev rfl) (((HS.out.box 0 rfl).cell 1).trans rfl)) ?_; clear HF a; intro a HF
  refine zg HF (yl_lenL (e := 137) (size := 2) rfl (HF.ev rfl) (by kernel_rfl)) ?_; clear HF a; intro a HF
  refine zg HF (yl_gtrI rfl (HF.ev rfl) (HF.ev rfl)) ?_; clear HF a; intro a HF
  refine zy HF (yl_pick_f rfl (HF.ev rfl) (HF.ev rfl)) ?_; clear HF a; intro a HF
  refine wl_ne ?_
  refine HF.cases 14 rfl (fun cc2 _ => ?_) fun cc2 _ => ?_
  ·clear HF;rename_i HF
   have q2 : decide (d.fWaits.length ≤ 120) = false := decide_eq_false (by have := of_decide_eq_true cc2; omega)
   refine wc_true HF rfl ?_
   refine wp_sr ?_
   refine za HF ?_; clear HF a; intro a HF
   refine wl_ne ?_
   refine wp_ret ?_
   refine ex_then_ret ?_
   refine bp_ret1 HF Tryz.results73 (HF.res rfl) ?_
   have hok : d.ok = false := by unfold DiskD.ok; rw [q1, q2]; simp
   exact ⟨by rw [hok], HS.out.bel⟩
  ·clear HF;rename_i HF
   have q2 : decide (d.fWaits.length ≤ 120) = true := decide_eq_true (by have := of_decide_eq_false cc2; omega)
   refine wc_false HF rfl ?_
   refine wp_skip ?_
   refine ex_then ?_
   refine wp_seq ?_
   refine wp_sr ?_
   refine zy HF (yfa 0 rfl (HF.ev rfl)) ?_; clear HF a; intro a HF
   refine zy HF (ylo (v := .slice a0 d.fCells.length c0) rfl (HF.ev rfl) (((HS.out.box 0 rfl).cell 0).trans rfl)) ?_; clear HF a; intro a HF
   refine zy HF (yl_lenL (e := 9) (size := 1) rfl (HF.ev rfl) (by kernel_rfl)) ?_; clear HF a; intro a HF
   refine zm HF ?_; clear HF a; intro a HF
   refine wl_ne ?_
   refine wp_block ?_
   refine wc_loop (ι := Nat) (fun k a w => (k ≤ d.fCells.length ∧ allB (cellB d) k = true) ∧ Fr 49 a [(1, .pointer (some ⟨b1, 0, none⟩)), (16, .slice a0 d.fCells.length c0), (17, .int .i64 (d.fCells.length : Int)), (18, .int .i64 (k : Int))] ∧ St w0 ([boxA b1 3 94 (.agg #[.slice a0 d.fCells.length c0, .slice a1 d.fWaits.length c1, .bool d.fGone])]) w) (fun k => d.fCells.length - k) 0 ⟨⟨Nat.zero_le _, rfl⟩, HF.less _ ⟨rfl, rfl, rfl, rfl, trivial⟩, HS.out⟩ ?_
   clear HF HS; clear a
   rintro k a w2 ⟨⟨hk, hf⟩, HF, HS⟩
   replace HS := Bx.mk HS
   refine wp_sr ?_
   refine zy HF (yl_lssI rfl (HF.ev rfl) (HF.ev rfl)) ?_; clear HF a; intro a HF
   refine wl_ne ?_
   refine wp_seq ?_
   refine HF.cases 19 rfl (fun cc3 _ => ?_) fun cc3 _ => ?_
   ·clear HF;rename_i HF
    have cc3 := of_decide_eq_true cc3
    refine wc_true HF rfl ?_
    refine wp_skip ?_
    refine ex_then ?_
    refine wp_seq ?_
    refine wp_block ?_
    refine wp_seq ?_
    obtain ⟨g0, o0, r0⟩ := HC.out.opn; have RC := Bx.mk r0; clear r0
    refine wp_region_lit ?_
    refine zy HF (yl_indexAddrR (e := 9) (i := k) (size := 1) rfl (HF.ev rfl) (HF.ev rfl) (by kernel_rfl) rfl (by omega) (RC.out.ao k (by omega))) ?_; clear HF a; intro a HF
    refine zy HF (ylo (v := .string (d.fCells.getD k ByteArray.empty)) rfl (HF.ev rfl) (RC.out.elem1 HS.out (get_getD (xs := d.fCells) (j := k) (d := ByteArray.empty) (by omega)) rfl)) ?_; clear HF a; intro a HF
    refine za HF ?_; clear HF a; intro a HF
    refine wl_ne ?_
    refine wp_sr ?_
    refine zm HF ?_; clear HF a; intro a HF
    refine zy HF (yl_lenS rfl (HF.ev rfl) (by kernel_rfl)) ?_; clear HF a; intro a HF
    refine zy HF (yl_gtrI rfl (HF.ev rfl) (HF.ev rfl)) ?_; clear HF a; intro a HF
    refine zm HF ?_; clear HF a; intro a HF
    refine HF.cases 25 rfl (fun cc4 _ => ?_) fun cc4 _ => ?_
    ·clear HF;rename_i HF
     have p1 : decide ((d.fCells.getD k ByteArray.empty).size ≤ 200) = false := decide_eq_false (by have := of_decide_eq_true cc4; omega)
     refine zk HF ?_; clear HF a; intro a HF
     refine zk HF ?_; clear HF a; intro a HF
     refine zk HF ?_; clear HF a; intro a HF
     refine wl_skipU HF rfl rfl rfl rfl rfl ?_; clear HF a; intro a HF
     refine wl_skipU HF rfl rfl rfl rfl rfl ?_; clear HF a; intro a HF
     refine zk HF ?_; clear HF a; intro a HF
     refine zy HF (yl_pick_t rfl (HF.ev rfl) (HF.ev rfl)) ?_; clear HF a; intro a HF
     refine wl_ne ?_
     refine wc_true HF rfl ?_
     refine wp_sr ?_
     refine za HF ?_; clear HF a; intro a HF
     refine wl_ne ?_
     refine wp_ret ?_
     refine ex_block_ret ?_
     refine ex_then_ret ?_
     refine ex_then_ret ?_
     refine ex_block_ret ?_
     refine ex_then_ret ?_
     refine bp_ret1 HF Tryz.results73 (HF.res rfl) ?_
     have hpf : cellB d k = false := by unfold cellB; simp only [p1]; rfl
     have hall := allB_false hpf (show k < d.fCells.length by omega)
     have hok : d.ok = false := by unfold DiskD.ok; rw [q1, q2, hall]; simp
     exact ⟨by rw [hok], HS.out.bel⟩
    ·clear HF;rename_i HF
     have p1 : decide ((d.fCells.getD k ByteArray.empty).size ≤ 200) = true := decide_eq_true (by have := of_decide_eq_false cc4; omega)
     refine zg HF (yfa 2 rfl (HF.ev rfl)) ?_; clear HF a; intro a HF
     refine zg HF (ylo (v := .bool d.fGone) rfl (HF.ev rfl) (((HS.out.box 0 rfl).cell 2).trans rfl)) ?_; clear HF a; intro a HF
     refine zg HF (yl_move rfl (HF.ev rfl)) ?_; clear HF a; intro a HF
     refine HF.cases 28 rfl (fun cc5 _ => ?_) fun cc5 _ => ?_
     ·clear HF;rename_i HF
      have q3 : d.fGone = true := cc5
      refine zg HF (yl_move rfl (HF.ev rfl)) ?_; clear HF a; intro a HF
      refine zg HF (yl_neqS rfl (HF.ev rfl) (HF.ev rfl)) ?_; clear HF a; intro a HF
      refine zg HF (yl_pick_t rfl (HF.ev rfl) (HF.ev rfl)) ?_; clear HF a; intro a HF
      refine zy HF (yl_pick_f rfl (HF.ev rfl) (HF.ev rfl)) ?_; clear HF a; intro a HF
      refine wl_ne ?_
      refine HF.cases 32 rfl (fun cc6 _ => ?_) fun cc6 _ => ?_
      ·clear HF;rename_i HF
       have p3 : ((d.fCells.getD k ByteArray.empty).toList == (⟨#[]⟩ : ByteArray).toList) = false := by simpa using cc6
       refine wc_true HF rfl ?_
       refine wp_sr ?_
       refine za HF ?_; clear HF a; intro a HF
       refine wl_ne ?_
       refine wp_ret ?_
       refine ex_block_ret ?_
       refine ex_then_ret ?_
       refine ex_then_ret ?_
       refine ex_block_ret ?_
       refine ex_then_ret ?_
       refine bp_ret1 HF Tryz.results73 (HF.res rfl) ?_
       have hpf : cellB d k = false := by unfold cellB; simp only [p1, p3, q3]; rfl
       have hall := allB_false hpf (show k < d.fCells.length by omega)
       have hok : d.ok = false := by unfold DiskD.ok; rw [q1, q2, hall]; simp
       exact ⟨by rw [hok], HS.out.bel⟩
      ·clear HF;rename_i HF
       have p3 : ((d.fCells.getD k ByteArray.empty).toList == (⟨#[]⟩ : ByteArray).toList) = true := by simpa using cc6
       refine wc_false HF rfl ?_
       refine wp_skip ?_
       refine ex_block ?_
       refine ex_then ?_
       refine wp_region_lit ?_
       refine zy HF (yl_addI rfl (HF.ev rfl) (HF.ev rfl) (i64w (by omega))) ?_; clear HF a; intro a HF
       refine zm HF ?_; clear HF a; intro a HF
       refine wl_ne ?_
       have hp : cellB d k = true := by unfold cellB; simp only [p1, p3, q3]; rfl
       exact ⟨k + 1, ⟨⟨by omega, by unfold allB; rw [hf, hp]; rfl⟩, HF.less _ ⟨rfl, rfl, rfl, rfl, trivial⟩, HS.out⟩, (by omega)⟩
     ·clear HF;rename_i HF
      have q3 : d.fGone = false := cc5
      refine zk HF ?_; clear HF a; intro a HF
      refine zk HF ?_; clear HF a; intro a HF
      refine zg HF (yl_pick_f rfl (HF.ev rfl) (HF.ev rfl)) ?_; clear HF a; intro a HF
      refine zy HF (yl_pick_f rfl (HF.ev rfl) (HF.ev rfl)) ?_; clear HF a; intro a HF
      refine wl_ne ?_
      refine wc_false HF rfl ?_
      refine wp_skip ?_
      refine ex_block ?_
      refine ex_then ?_
      refine wp_region_lit ?_
      refine zy HF (yl_addI rfl (HF.ev rfl) (HF.ev rfl) (i64w (by omega))) ?_; clear HF a; intro a HF
      refine zm HF ?_; clear HF a; intro a HF
      refine wl_ne ?_
      have hp : cellB d k = true := by unfold cellB; simp only [p1, q3]; rfl
      exact ⟨k + 1, ⟨⟨by omega, by unfold allB; rw [hf, hp]; rfl⟩, HF.less _ ⟨rfl, rfl, rfl, rfl, trivial⟩, HS.out⟩, (by omega)⟩
   ·clear HF;rename_i HF
    have cc3 := of_decide_eq_false cc3
    refine wc_false HF rfl ?_
    refine wp_exit ?_
    refine ex_then_exit ?_
    refine ex_then_exit ?_
    refine ex_block_hit ?_
    refine ex_then ?_
    refine wp_seq ?_
    have hkl : k = d.fCells.length := by omega
    rw [hkl] at hf; have hcells := hf; clear hf hkl
    refine wp_region_lit ?_
    refine zy HF (yfa 2 rfl (HF.ev rfl)) ?_; clear HF a; intro a HF
    refine zy HF (ylo (v := .bool d.fGone) rfl (HF.ev rfl) (((HS.out.box 0 rfl).cell 2).trans rfl)) ?_; clear HF a; intro a HF
    refine zm HF ?_; clear HF a; intro a HF
    refine HF.cases 36 rfl (fun cc7 _ => ?_) fun cc7 _ => ?_
    ·clear HF;rename_i HF
     have q3 : d.fGone = true := cc7
     refine zg HF (yfa 1 rfl (HF.ev rfl)) ?_; clear HF a; intro a HF
     refine zg HF (ylo (v := .slice a1 d.fWaits.length c1) rfl (HF.ev rfl) (((HS.out.box 0 rfl).cell 1).trans rfl)) ?_; clear HF a; intro a HF
     refine zg HF (yl_lenL (e := 137) (size := 2) rfl (HF.ev rfl) (by kernel_rfl)) ?_; clear HF a; intro a HF
     refine zg HF (yl_gtrI rfl (HF.ev rfl) (HF.ev rfl)) ?_; clear HF a; intro a HF
     refine zy HF (yl_pick_t rfl (HF.ev rfl) (HF.ev rfl)) ?_; clear HF a; intro a HF
     refine zy HF (yl_not rfl (HF.ev rfl)) ?_; clear HF a; intro a HF
     refine zm HF ?_; clear HF a; intro a HF
     refine HF.cases 43 rfl (fun cc8 _ => ?_) fun cc8 _ => ?_
     ·clear HF;rename_i HF
      have q4 : decide (0 < d.fWaits.length) = false := decide_eq_false (by have hx : decide ((0 : Int) < (d.fWaits.length : Int)) = false := (by simpa using cc8); have := of_decide_eq_false hx; omega)
      refine zg HF (yfa 1 rfl (HF.ev rfl)) ?_; clear HF a; intro a HF
      refine zg HF (ylo (v := .slice a1 d.fWaits.length c1) rfl (HF.ev rfl) (((HS.out.box 0 rfl).cell 1).trans rfl)) ?_; clear HF a; intro a HF
      refine wl_callBg HF rfl rfl rfl rfl (enter_of Tryz.func117 (by kernel_rfl) rfl) (args := #[.slice a1 d.fWaits.length c1, .func (.func 118) #[] #[]]) rfl (v := .bool (!allB (fun k => !!waitB d k) d.fWaits.length)) (containsFuncW_any a1 c1 d.fWaits 118 #[] (fun k => !waitB d k) _ (by omega) (enter_of Tryz.func118 (by kernel_rfl) rfl) (HW.out.below HS.out.bel) (fun k hk w hb => by have := badWaitF_any (d.fWaits.getD k default).fAt (d.fWaits.getD k default).fText w (hx k); rw [badWaitF_eq] at this; exact this)) rfl rfl HS.out ?_; clear HF HS a; intro w3 a HS HF; replace HS := Bx.mk HS
      refine zg HF (yl_not rfl (HF.ev rfl)) ?_; clear HF a; intro a HF
      refine zy HF (yl_pick_t rfl (HF.ev rfl) (HF.ev rfl)) ?_; clear HF a; intro a HF
      refine za HF ?_; clear HF a; intro a HF
      refine wl_ne ?_
      refine wp_ret ?_
      refine bp_ret1 HF Tryz.results73 (HF.res rfl) ?_
      have hpp : (fun k => !!waitB d k) = waitB d := by funext k; simp
      have hok : d.ok = !(!allB (fun k => !!waitB d k) d.fWaits.length) := by unfold DiskD.ok; rw [q1, q2, q3, q4, hcells]; simp [hpp]
      exact ⟨by rw [hok], HS.out.bel⟩
     ·clear HF;rename_i HF
      have q4 : decide (0 < d.fWaits.length) = true := decide_eq_true (by have hx : decide ((0 : Int) < (d.fWaits.length : Int)) = true := (by simpa using cc8); have := of_decide_eq_true hx; omega)
      refine zk HF ?_; clear HF a; intro a HF
      refine zk HF ?_; clear HF a; intro a HF
      refine zk HF ?_; clear HF a; intro a HF
      refine zk HF ?_; clear HF a; intro a HF
      refine zy HF (yl_pick_f rfl (HF.ev rfl) (HF.ev rfl)) ?_; clear HF a; intro a HF
      refine za HF ?_; clear HF a; intro a HF
      refine wl_ne ?_
      refine wp_ret ?_
      refine bp_ret1 HF Tryz.results73 (HF.res rfl) ?_
      have hpp : (fun k => !!waitB d k) = waitB d := by funext k; simp
      have hok : d.ok = false := by unfold DiskD.ok; rw [q1, q2, q3, q4, hcells]; simp [hpp]
      exact ⟨by rw [hok], HS.out.bel⟩
    ·clear HF;rename_i HF
     have q3 : d.fGone = false := cc7
     refine zk HF ?_; clear HF a; intro a HF
     refine zk HF ?_; clear HF a; intro a HF
     refine zk HF ?_; clear HF a; intro a HF
     refine zk HF ?_; clear HF a; intro a HF
     refine zy HF (yl_pick_f rfl (HF.ev rfl) (HF.ev rfl)) ?_; clear HF a; intro a HF
     refine zy HF (yl_not rfl (HF.ev rfl)) ?_; clear HF a; intro a HF
     refine zm HF ?_; clear HF a; intro a HF
     refine zg HF (yfa 1 rfl (HF.ev rfl)) ?_; clear HF a; intro a HF
     refine zg HF (ylo (v := .slice a1 d.fWaits.length c1) rfl (HF.ev rfl) (((HS.out.box 0 rfl).cell 1).trans rfl)) ?_; clear HF a; intro a HF
     refine wl_callBg HF rfl rfl rfl rfl (enter_of Tryz.func117 (by kernel_rfl) rfl) (args := #[.slice a1 d.fWaits.length c1, .func (.func 118) #[] #[]]) rfl (v := .bool (!allB (fun k => !!waitB d k) d.fWaits.length)) (containsFuncW_any a1 c1 d.fWaits 118 #[] (fun k => !waitB d k) _ (by omega) (enter_of Tryz.func118 (by kernel_rfl) rfl) (HW.out.below HS.out.bel) (fun k hk w hb => by have := badWaitF_any (d.fWaits.getD k default).fAt (d.fWaits.getD k default).fText w (hx k); rw [badWaitF_eq] at this; exact this)) rfl rfl HS.out ?_; clear HF HS a; intro w4 a HS HF; replace HS := Bx.mk HS
     refine zg HF (yl_not rfl (HF.ev rfl)) ?_; clear HF a; intro a HF
     refine zy HF (yl_pick_t rfl (HF.ev rfl) (HF.ev rfl)) ?_; clear HF a; intro a HF
     refine za HF ?_; clear HF a; intro a HF
     refine wl_ne ?_
     refine wp_ret ?_
     refine bp_ret1 HF Tryz.results73 (HF.res rfl) ?_
     have hpp : (fun k => !!waitB d k) = waitB d := by funext k; simp
     have hok : d.ok = !(!allB (fun k => !!waitB d k) d.fWaits.length) := by unfold DiskD.ok; rw [q1, q2, q3, hcells]; simp [hpp]
     exact ⟨by rw [hok], HS.out.bel⟩

structure DiskD.fits (d : DiskD) : Prop where
  c : d.fCells.length ≤ 1048576
  w : d.fWaits.length ≤ 1048576
  cz : ∀ k, (d.fCells.getD k ByteArray.empty).size ≤ 9223372036854775807
  wz : ∀ k, (d.fWaits.getD k default).fText.size ≤ 9223372036854775807
def okR (ds : List DiskD) : Bool := decide (ds.length = 3) && allB (fun k => (ds.getD k default).ok) ds.length
def dsOf (ps : List HD) : List DiskD := ps.map HD.d
theorem dsOf_len (ps : List HD) : (dsOf ps).length = ps.length := List.length_map ..
theorem dsOf_get (ps : List HD) (k : Nat) : (dsOf ps).getD k default = (ps.getD k default).d := by
  unfold dsOf
  simp only [List.getD_eq_getElem?_getD, List.getElem?_map]
  cases ps[k]? <;> rfl
theorem okR_ps (ps : List HD) : okR (dsOf ps) = (decide (ps.length = 3) && allB (fun k => (ps.getD k default).d.ok) ps.length) := by
  unfold okR
  rw [dsOf_len]
  simp only [dsOf_get]

theorem raidOk1_any (p : HD) (w0 : World) (hf : p.d.fits) (hp : p.reads w0) : Calls Tryz.prog 72 #[.agg #[.slice p.a0 p.d.fCells.length p.c0, .slice p.a1 p.d.fWaits.length p.c1, .bool p.d.fGone]] w0 fun e w' => e = .returned (.bool (!p.d.ok)) ∧ Below w0.heap.size w0 w' := by
 have HP := Bx.mk hp; clear hp
 have HS := Bx.mk (St.start w0)
 refine wc_enter Tryz.func72 rfl Tryz.ntmps72 [(0, .agg #[.slice p.a0 p.d.fCells.length p.c0, .slice p.a1 p.d.fWaits.length p.c1, .bool p.d.fGone])] ⟨rfl, trivial⟩ rfl ?_; intro a HF
 refine wp_sr ?_
 refine wl_box rfl HF rfl (HF.ev rfl) (Z := [.slice p.a0 p.d.fCells.length p.c0, .slice p.a1 p.d.fWaits.length p.c1, .bool p.d.fGone]) rfl rfl rfl rfl HS.out ?_; clear HF HS a; intro a w1 b1 HF HS; replace HS := Bx.mk HS
 refine za HF ?_; clear HF a; intro a HF
 refine wl_ne ?_
 refine wp_sr ?_
 refine zy HF (ylr (cs := [.slice p.a0 p.d.fCells.length p.c0, .slice p.a1 p.d.fWaits.length p.c1, .bool p.d.fGone]) rfl (HF.ev rfl) ((HS.out.box 0 rfl).sub 0 3)) ?_; clear HF a; intro a HF
 refine wl_callB rfl HF rfl (enter_of Tryz.func73 (by kernel_rfl) rfl) (args := #[.agg #[.slice p.a0 p.d.fCells.length p.c0, .slice p.a1 p.d.fWaits.length p.c1, .bool p.d.fGone]]) rfl (v := .bool p.d.ok) (implDiskOk_any p.a0 p.c0 p.a1 p.c1 p.d _ hf.c hf.w hf.cz hf.wz (HP.out.below HS.out.bel).rc (HP.out.below HS.out.bel).rw) rfl rfl HS.out ?_; clear HF HS a; intro w2 a HS HF; replace HS := Bx.mk HS
 refine zy HF (yl_not rfl (HF.ev rfl)) ?_; clear HF a; intro a HF
 refine za HF ?_; clear HF a; intro a HF
 refine wl_ne ?_
 refine wp_ret ?_
 refine bp_ret1 HF Tryz.results72 (HF.res rfl) ?_
 exact ⟨rfl, HS.out.bel⟩

theorem implRaidOk_any (a0 : Option Addr) (c0 : Nat) (ps : List HD) (w0 : World) (hl : ps.length ≤ 1048576) (hf : ∀ k, (ps.getD k default).d.fits) (hR : Rd HD.cells 3 w0 a0 ps.length ps) (hP : ∀ k, k < ps.length → (ps.getD k default).reads w0) : Calls Tryz.prog 35 #[.agg #[.slice a0 ps.length c0]] w0 fun e w' => e = .returned (.bool (okR (dsOf ps))) ∧ Below w0.heap.size w0 w' := by
 have HR := Bx.mk hR; have HP := Bx.mk hP; clear hR hP
 have HS := Bx.mk (St.start w0)
 refine wc_enter Tryz.func35 rfl Tryz.ntmps35 [(0, .agg #[.slice a0 ps.length c0])] ⟨rfl, trivial⟩ rfl ?_; intro a HF
 refine wp_sr ?_
 refine wl_box rfl HF rfl (HF.ev rfl) (Z := [.slice a0 ps.length c0]) rfl rfl rfl rfl HS.out ?_; clear HF HS a; intro a w1 b1 HF HS; replace HS := Bx.mk HS
 refine za HF ?_; clear HF a; intro a HF
 refine wl_ne ?_
 refine wp_sr ?_
 refine zy HF (yfa 0 rfl (HF.ev rfl)) ?_; clear HF a; intro a HF
 refine zy HF (ylo (v := .slice a0 ps.length c0) rfl (HF.ev rfl) (((HS.out.box 0 rfl).cell 0).trans rfl)) ?_; clear HF a; intro a HF
 refine zy HF (yl_lenL (e := 94) (size := 3) rfl (HF.ev rfl) (by kernel_rfl)) ?_; clear HF a; intro a HF
 refine zy HF (yl_eqlI rfl (HF.ev rfl) (HF.ev rfl)) ?_; clear HF a; intro a HF
 refine zm HF ?_; clear HF a; intro a HF
 refine HF.cases 7 rfl (fun cc1 _ => ?_) fun cc1 _ => ?_
 ·clear HF;rename_i HF
  have dcc1 := eq_of_beq cc1
  refine zg HF (yfa 0 rfl (HF.ev rfl)) ?_; clear HF a; intro a HF
  refine zg HF (ylo (v := .slice a0 ps.length c0) rfl (HF.ev rfl) (((HS.out.box 0 rfl).cell 0).trans rfl)) ?_; clear HF a; intro a HF
  refine wl_callBg HF rfl rfl rfl rfl (enter_of Tryz.func71 (by kernel_rfl) rfl) (args := #[.slice a0 ps.length c0, .func (.func 72) #[] #[]]) rfl (v := .bool (!allB (fun k => !!(ps.getD k default).d.ok) ps.length)) (containsFuncD_any a0 c0 ps 72 #[] (fun k => !(ps.getD k default).d.ok) _ (by omega) (enter_of Tryz.func72 (by kernel_rfl) rfl) (HR.out.below HS.out.bel) (fun k hk w hb => raidOk1_any (ps.getD k default) w (hf k) (((HP.out k hk).below HS.out.bel).below hb))) rfl rfl HS.out ?_; clear HF HS a; intro w2 a HS HF; replace HS := Bx.mk HS
  refine zg HF (yl_not rfl (HF.ev rfl)) ?_; clear HF a; intro a HF
  refine zy HF (yl_pick_t rfl (HF.ev rfl) (HF.ev rfl)) ?_; clear HF a; intro a HF
  refine za HF ?_; clear HF a; intro a HF
  refine wl_ne ?_
  refine wp_ret ?_
  refine bp_ret1 HF Tryz.results35 (HF.res rfl) ?_
  have hpp : (fun k => !!(ps.getD k default).d.ok) = (fun k => (ps.getD k default).d.ok) := by funext k; simp
  exact ⟨by rw [okR_ps, decide_eq_true (by omega)]; simp [hpp], HS.out.bel⟩
 ·clear HF;rename_i HF
  have dcc1 := ne_of_beq_false cc1
  refine zk HF ?_; clear HF a; intro a HF
  refine zk HF ?_; clear HF a; intro a HF
  refine zk HF ?_; clear HF a; intro a HF
  refine zk HF ?_; clear HF a; intro a HF
  refine zy HF (yl_pick_f rfl (HF.ev rfl) (HF.ev rfl)) ?_; clear HF a; intro a HF
  refine za HF ?_; clear HF a; intro a HF
  refine wl_ne ?_
  refine wp_ret ?_
  refine bp_ret1 HF Tryz.results35 (HF.res rfl) ?_
  have hpp : (fun k => !!(ps.getD k default).d.ok) = (fun k => (ps.getD k default).d.ok) := by funext k; simp
  exact ⟨by rw [okR_ps, decide_eq_false (by omega)]; rfl, HS.out.bel⟩

theorem specRaidOk_any (a0 : Option Addr) (c0 : Nat) (ps : List HD) (w0 : World) (hl : ps.length ≤ 1048576) (hf : ∀ k, (ps.getD k default).d.fits) (hR : Rd HD.cells 3 w0 a0 ps.length ps) (hP : ∀ k, k < ps.length → (ps.getD k default).reads w0) : Calls Tryz.prog 28 #[.agg #[.slice a0 ps.length c0]] w0 fun e w' => e = .returned (.bool (okR (dsOf ps))) ∧ Below w0.heap.size w0 w' := by
 have HR := Bx.mk hR; have HP := Bx.mk hP; clear hR hP
 have HS := Bx.mk (St.start w0)
 refine wc_enter Tryz.func28 rfl Tryz.ntmps28 [(0, .agg #[.slice a0 ps.length c0])] ⟨rfl, trivial⟩ rfl ?_; intro a HF
 refine wp_sr ?_
 refine wl_box rfl HF rfl (HF.ev rfl) (Z := [.slice a0 ps.length c0]) rfl rfl rfl rfl HS.out ?_; clear HF HS a; intro a w1 b1 HF HS; replace HS := Bx.mk HS
 refine za HF ?_; clear HF a; intro a HF
 refine wl_ne ?_
 refine wp_seq ?_
 refine wp_sr ?_
 refine za HF ?_; clear HF a; intro a HF
 refine wl_ne ?_
 refine wp_block ?_
 refine wc_loop (ι := Nat) (fun k a w => (k ≤ ps.length ∧ allB (fun k => (ps.getD k default).d.ok) k = true) ∧ Fr 22 a [(1, .pointer (some ⟨b1, 0, none⟩)), (3, .int .i64 (k : Int))] ∧ St w0 ([boxA b1 1 34 (.agg #[.slice a0 ps.length c0])]) w) (fun k => ps.length - k) 0 ⟨⟨Nat.zero_le _, rfl⟩, HF.less _ ⟨rfl, rfl, trivial⟩, HS.out⟩ ?_
 clear HF HS; clear a
 rintro k a w2 ⟨⟨hk, hf2⟩, HF, HS⟩
 replace HS := Bx.mk HS
 refine wp_seq ?_
 refine wp_sr ?_
 refine zm HF ?_; clear HF a; intro a HF
 refine zy HF (yfa 0 rfl (HF.ev rfl)) ?_; clear HF a; intro a HF
 refine zy HF (ylo (v := .slice a0 ps.length c0) rfl (HF.ev rfl) (((HS.out.box 0 rfl).cell 0).trans rfl)) ?_; clear HF a; intro a HF
 refine zy HF (yl_lenL (e := 94) (size := 3) rfl (HF.ev rfl) (by kernel_rfl)) ?_; clear HF a; intro a HF
 refine zy HF (yl_lssI rfl (HF.ev rfl) (HF.ev rfl)) ?_; clear HF a; intro a HF
 refine wl_ne ?_
 refine HF.cases 8 rfl (fun cc1 _ => ?_) fun cc1 _ => ?_
 ·clear HF;rename_i HF
  have dcc1 := of_decide_eq_true cc1
  refine wc_true HF rfl ?_
  refine wp_skip ?_
  refine ex_then ?_
  refine wp_seq ?_
  refine wp_block ?_
  refine wp_seq ?_
  obtain ⟨g0, o0, r0⟩ := HR.out.opn; have R0 := Bx.mk r0; clear r0
  refine wp_region_lit ?_
  refine zy HF (yfa 0 rfl (HF.ev rfl)) ?_; clear HF a; intro a HF
  refine zy HF (ylo (v := .slice a0 ps.length c0) rfl (HF.ev rfl) (((HS.out.box 0 rfl).cell 0).trans rfl)) ?_; clear HF a; intro a HF
  refine zm HF ?_; clear HF a; intro a HF
  refine zy HF (yl_indexAddrR (e := 94) (i := k) (size := 3) rfl (HF.ev rfl) (HF.ev rfl) (by kernel_rfl) rfl (by omega) (R0.out.ao k (by omega))) ?_; clear HF a; intro a HF
  refine zy HF (ylr (cs := [.slice ((ps.getD k default).a0) ((ps.getD k default).d.fCells.length) ((ps.getD k default).c0), .slice ((ps.getD k default).a1) ((ps.getD k default).d.fWaits.length) ((ps.getD k default).c1), .bool ((ps.getD k default).d.fGone)]) rfl (HF.ev rfl) (R0.out.elem HS.out (get_getD (xs := ps) (j := k) (d := default) (by omega)))) ?_; clear HF a; intro a HF
  refine wl_callB rfl HF rfl (enter_of Tryz.func60 (by kernel_rfl) rfl) (args := #[.agg #[.slice ((ps.getD k default).a0) ((ps.getD k default).d.fCells.length) ((ps.getD k default).c0), .slice ((ps.getD k default).a1) ((ps.getD k default).d.fWaits.length) ((ps.getD k default).c1), .bool ((ps.getD k default).d.fGone)]]) rfl (v := .bool ((ps.getD k default).d.ok)) (specDiskOk_any (ps.getD k default).a0 (ps.getD k default).c0 (ps.getD k default).a1 (ps.getD k default).c1 (ps.getD k default).d _ (hf k).c (hf k).w (hf k).cz ((HP.out k (by omega)).below HS.out.bel).rc ((HP.out k (by omega)).below HS.out.bel).rw) rfl rfl HS.out ?_; clear HF HS a; intro w3 a HS HF; replace HS := Bx.mk HS
  refine zy HF (yl_not rfl (HF.ev rfl)) ?_; clear HF a; intro a HF
  refine wl_ne ?_
  refine HF.cases 17 rfl (fun cc2 _ => ?_) fun cc2 _ => ?_
  ·clear HF;rename_i HF
   refine wc_true HF rfl ?_
   refine wp_sr ?_
   refine za HF ?_; clear HF a; intro a HF
   refine wl_ne ?_
   refine wp_ret ?_
   refine ex_block_ret ?_
   refine ex_then_ret ?_
   refine ex_then_ret ?_
   refine ex_block_ret ?_
   refine ex_then_ret ?_
   refine bp_ret1 HF Tryz.results28 (HF.res rfl) ?_
   have hp : (ps.getD k default).d.ok = false := by simpa using cc2
   exact ⟨by rw [okR_ps, allB_false (p := fun k => (ps.getD k default).d.ok) (k := k) hp (by omega)]; simp, HS.out.bel⟩
  ·clear HF;rename_i HF
   refine wc_false HF rfl ?_
   refine wp_skip ?_
   refine ex_block ?_
   refine ex_then ?_
   refine wp_region_lit ?_
   refine zm HF ?_; clear HF a; intro a HF
   refine zy HF (yl_addI rfl (HF.ev rfl) (HF.ev rfl) (i64w (by omega))) ?_; clear HF a; intro a HF
   refine za HF ?_; clear HF a; intro a HF
   refine wl_ne ?_
   have hp : (ps.getD k default).d.ok = true := by simpa using cc2
   exact ⟨k + 1, ⟨⟨by omega, by unfold allB; rw [hf2, hp]; rfl⟩, HF.less _ ⟨rfl, rfl, trivial⟩, HS.out⟩, (by omega)⟩
 ·clear HF;rename_i HF
  have dcc1 := of_decide_eq_false cc1
  refine wc_false HF rfl ?_
  refine wp_exit ?_
  refine ex_then_exit ?_
  refine ex_then_exit ?_
  refine ex_block_hit ?_
  refine ex_then ?_
  refine wp_sr ?_
  refine zy HF (yfa 0 rfl (HF.ev rfl)) ?_; clear HF a; intro a HF
  refine zy HF (ylo (v := .slice a0 ps.length c0) rfl (HF.ev rfl) (((HS.out.box 0 rfl).cell 0).trans rfl)) ?_; clear HF a; intro a HF
  refine zy HF (yl_lenL (e := 94) (size := 3) rfl (HF.ev rfl) (by kernel_rfl)) ?_; clear HF a; intro a HF
  refine zy HF (yl_eqlI rfl (HF.ev rfl) (HF.ev rfl)) ?_; clear HF a; intro a HF
  refine za HF ?_; clear HF a; intro a HF
  refine wl_ne ?_
  refine wp_ret ?_
  refine bp_ret1 HF Tryz.results28 (HF.res rfl) ?_
  obtain rfl : k = ps.length := by omega
  exact ⟨by rw [okR_ps, hf2, Bool.and_true]; congr 2; by_cases h3 : ps.length = 3 <;> simp [h3]; omega, HS.out.bel⟩

end Go.Proofs.YtoaopmkbfifhaaaGreatDoor

/- slices.Clone of waiting writes. -/
namespace Go.Proofs.YtoaopmkbfifhaaaGreatDoor
set_option linter.unusedVariables false
set_option linter.unusedSimpArgs false
set_option maxHeartbeats 1000000
set_option maxRecDepth 100000
open Go.RowKit

theorem cloneW_any (ao : Option Addr) (cap : Nat) (xs : List WaitD) (w : World) (hlen : xs.length ≤ 1048576) (hr : Rd WaitD.cells 2 w ao xs.length xs) :
    Calls Tryz.prog 123 #[.slice ao xs.length cap] w fun e w' => (∃ ao' cap', e = .returned (.slice ao' xs.length cap') ∧ RowO WaitD.cells 2 137 w' w.heap.size w'.heap.size (.slice ao' xs.length cap') xs) ∧ Below w.heap.size w w' := by
  have hb1 : Below w.heap.size w (w.alloc (.cells #[] 137)) := (Below.refl _ _).alloc (Nat.le_refl _) _
  have H1 := Bx.mk hb1
  have HN := Bx.mk (hr.below hb1)
  clear hb1
  cases ao with
  | none =>
    obtain rfl := rd_nil hr
    clear hr
    have hq := fun (w : World) => run_eql_slice_nil (P := Tryz.prog) w 92 137 none 0 cap Tryz.underlying92
    go_enter Tryz.func123, Tryz.ntmps123
    go_wp2
    go_ret
    exact ⟨⟨_, _, rfl, RowO.empty _ _ _ _ _ _ _⟩, Below.refl _ _⟩
  | some a =>
    obtain ⟨i0, hi, hz0, hz1, hz2⟩ := info_parts Tryz.infoWaitS
    clear hr
    have hq := fun (w : World) => run_eql_slice_nil (P := Tryz.prog) w 92 137 (some a) xs.length cap Tryz.underlying92
    go_enter Tryz.func123, Tryz.ntmps123
    go_wp2_with (at_builtin; refine wpList_append_own _ rfl (.tmp 5) (.tmp 6) 92 rfl w.heap.size 137 i0 _ 2 24 Tryz.underlying92 hi hz0 hz1 hz2 rfl (by decide) _ 0 [] rfl (owns_made w 137 2) a xs.length cap (xs.flatMap WaitD.cells) rfl (flat_len _ _ WaitD.cells_len xs) (HN.out.news WaitD.cells_len (by decide)) (cells_one_W xs) ?b1 ?b2 ?b3 ?_)
    case b1 => unfold maxLen; omega
    case b2 => omega
    case b3 => simp
    intro v w2 hown hg _
    obtain ⟨ao', cap', rfl, _⟩ := owns_slice hown
    go_wp2
    go_ret
    exact ⟨⟨_, _, rfl, RowO.mk hown (fun g h => (hown.lt g h).2)⟩, H1.out.grown hg H1.out.size (by simp [Value.ownBlock])⟩
end Go.Proofs.YtoaopmkbfifhaaaGreatDoor

/- Drawn regions that first read (and call), then write: what holds of the world is asked only until a marked operation has come up. -/
namespace Go.Proofs.YtoaopmkbfifhaaaGreatDoor
set_option linter.unusedVariables false
set_option linter.unusedSimpArgs false
set_option maxHeartbeats 1000000
set_option maxRecDepth 100000
open Go.RowKit

section
variable {P : Program} {md : Region.Mode} {ops : Array Oper} {Q : Exit → Act → World → Prop} {S : World → Prop} {m : Nat}
def wpAnyM (P : Program) (md : Region.Mode) (ops : Array Oper) (Q : Exit → Act → World → Prop) (S : World → Prop) (m : Nat) : Nat → Array Bool → Act → World → Prop
  | 0, listed, a, w => Region.ready md ops listed = [] ∧ Q .normal a w
  | fuel + 1, listed, a, w =>
    (Region.ready md ops listed = [] → Q .normal a w) ∧
    ∀ i ∈ Region.ready md ops listed, wpOp P ops Q i (fun a' w' => ((listed.setIfInBounds i true).getD m true = false → S w') ∧ wpAnyM P md ops Q S m fuel (listed.setIfInBounds i true) a' w') a w
theorem wpAny_of_M : ∀ (fuel : Nat) (listed : Array Bool) (a : Act) (w : World), wpAnyM P md ops Q S m fuel listed a w → wpAny P md ops Q fuel listed a w
  | 0, _, _, _, h => h
  | fuel + 1, _, _, _, h => ⟨h.1, fun i hi => wpOp_mono (fun a' w' h' => wpAny_of_M fuel _ a' w' h'.2) (h.2 i hi)⟩
/-- A read that the marked operation waits for may be taken first. -/
theorem wpAnyM_first {i : Nat} {oi : Oper} {v : Value} (hi : ops[i]? = some oi) (hsel : ∀ (j : Nat) (o : Oper) cs b, ops[j]? = some o → o.op ≠ .select cs b)
    (hQ : ∀ c a w, Q (.panic c) (a.put oi.dst v) w → Q (.panic c) a w) (him : i ≠ m) (hdep : ∀ om, ops[m]? = some om → ∃ e ∈ om.after, Region.binds md e = true ∧ e.on = i) :
    ∀ (fuel : Nat) (listed : Array Bool) (a : Act) (w : World),
      (∀ j oj, ops[j]? = some oj → j ≠ i → listed.getD j true = false → (∀ e ∈ oj.after, Region.binds md e = true → e.on ≠ i) → oi.apart ops oj = true) →
      i ∈ Region.ready md ops listed → YieldsIf P ops S oi v a → listed.getD m true = false → S w →
      wpAnyM P md ops Q S m fuel (listed.setIfInBounds i true) (a.put oi.dst v) w → wpAnyM P md ops Q S m (fuel + 1) listed a w := by
  intro fuel
  induction fuel with
  | zero =>
    intro listed a w _ hr hy hm hS H
    refine ⟨fun h => (by rw [h] at hr; cases hr), fun j hj => ?_⟩
    by_cases hji : j = i
    · subst hji; exact hy.wpOp hi hS ⟨fun _ => hS, H⟩
    · have := ready_mono hj hji
      rw [H.1] at this
      cases this
  | succ fuel ih =>
    intro listed a w hfree hr hy hm hS H
    refine ⟨fun h => (by rw [h] at hr; cases hr), fun j hj => ?_⟩
    by_cases hji : j = i
    · subst hji; exact hy.wpOp hi hS ⟨fun _ => hS, H⟩
    · have h1 := H.2 j (ready_mono hj hji)
      obtain ⟨hjun, oj, hoj, hall⟩ := mem_ready.1 hj
      have hnot : ∀ e ∈ oj.after, Region.binds md e = true → e.on ≠ i := fun e he hb heq => by
        have h1 := hall e he hb
        have h0 := (mem_ready.1 hr).1
        rw [heq] at h1
        rcases Nat.lt_or_ge i listed.size with h' | h'
        · simp [h'] at h0 h1; rw [h0] at h1; cases h1
        · simp [Array.getElem?_eq_none h'] at h1
      have hjm : j ≠ m := fun e => by
        subst e
        obtain ⟨e, he, hb, hon⟩ := hdep oj hoj
        exact hnot e he hb hon
      have h2 := wpOp_putIf hoj (hfree j oj hoj hji hjun hnot) (fun cs b => hsel i oi cs b hi) (fun cs b => hsel j oj cs b hoj) hQ hy h1
      have hfree' : ∀ k ok, ops[k]? = some ok → k ≠ i → (listed.setIfInBounds j true).getD k true = false →
          (∀ e ∈ ok.after, Region.binds md e = true → e.on ≠ i) → oi.apart ops ok = true := fun k ok hk hki hun hno => by
        refine hfree k ok hk hki ?_ hno
        by_cases hjk : j = k
        · subst hjk; exact hjun
        · rw [getD_set_ne true hjk] at hun; exact hun
      have hmj : (listed.setIfInBounds j true).getD m true = false := by rw [getD_set_ne true hjm]; exact hm
      refine wpOp_mono (fun a' w' h3 => ?_) h2
      have hS' : S w' := h3.2.1 (by rw [getD_set_ne true hjm, getD_set_ne true him]; exact hm)
      refine ⟨fun _ => hS', ih (listed.setIfInBounds j true) a' w' hfree' (ready_mono hr (Ne.symm hji)) h3.1 hmj hS' ?_⟩
      rw [Array.setIfInBounds_comm _ _ hji]
      exact h3.2.2
/-- What yields in every world may be taken first. -/
theorem wpAnyM_firstT {i : Nat} {oi : Oper} {v : Value} (hi : ops[i]? = some oi) (hsel : ∀ (j : Nat) (o : Oper) cs b, ops[j]? = some o → o.op ≠ .select cs b)
    (hQ : ∀ c a w, Q (.panic c) (a.put oi.dst v) w → Q (.panic c) a w) (him : i ≠ m) :
    ∀ (fuel : Nat) (listed : Array Bool) (a : Act) (w : World),
      (∀ j oj, ops[j]? = some oj → j ≠ i → listed.getD j true = false → (∀ e ∈ oj.after, Region.binds md e = true → e.on ≠ i) → oi.apart ops oj = true) →
      i ∈ Region.ready md ops listed → YieldsIf P ops (fun _ => True) oi v a → (listed.getD m true = false → S w) →
      wpAnyM P md ops Q S m fuel (listed.setIfInBounds i true) (a.put oi.dst v) w → wpAnyM P md ops Q S m (fuel + 1) listed a w := by
  intro fuel
  induction fuel with
  | zero =>
    intro listed a w _ hr hy hS H
    refine ⟨fun h => (by rw [h] at hr; cases hr), fun j hj => ?_⟩
    by_cases hji : j = i
    · subst hji; exact hy.wpOp hi trivial ⟨fun h => hS (by rw [getD_set_ne true him] at h; exact h), H⟩
    · have := ready_mono hj hji
      rw [H.1] at this
      cases this
  | succ fuel ih =>
    intro listed a w hfree hr hy hS H
    refine ⟨fun h => (by rw [h] at hr; cases hr), fun j hj => ?_⟩
    by_cases hji : j = i
    · subst hji; exact hy.wpOp hi trivial ⟨fun h => hS (by rw [getD_set_ne true him] at h; exact h), H⟩
    · have h1 := H.2 j (ready_mono hj hji)
      obtain ⟨hjun, oj, hoj, hall⟩ := mem_ready.1 hj
      have hnot : ∀ e ∈ oj.after, Region.binds md e = true → e.on ≠ i := fun e he hb heq => by
        have h1 := hall e he hb
        have h0 := (mem_ready.1 hr).1
        rw [heq] at h1
        rcases Nat.lt_or_ge i listed.size with h' | h'
        · simp [h'] at h0 h1; rw [h0] at h1; cases h1
        · simp [Array.getElem?_eq_none h'] at h1
      have h2 := wpOp_putIf hoj (hfree j oj hoj hji hjun hnot) (fun cs b => hsel i oi cs b hi) (fun cs b => hsel j oj cs b hoj) hQ hy h1
      have hfree' : ∀ k ok, ops[k]? = some ok → k ≠ i → (listed.setIfInBounds j true).getD k true = false →
          (∀ e ∈ ok.after, Region.binds md e = true → e.on ≠ i) → oi.apart ops ok = true := fun k ok hk hki hun hno => by
        refine hfree k ok hk hki ?_ hno
        by_cases hjk : j = k
        · subst hjk; exact hjun
        · rw [getD_set_ne true hjk] at hun; exact hun
      refine wpOp_mono (fun a' w' h3 => ?_) h2
      have hS' : (listed.setIfInBounds j true).getD m true = false → S w' := fun h => h3.2.1 (by rw [Array.setIfInBounds_comm _ _ (Ne.symm hji), getD_set_ne true him]; exact h)
      refine ⟨hS', ih (listed.setIfInBounds j true) a' w' hfree' (ready_mono hr (Ne.symm hji)) h3.1 hS' ?_⟩
      rw [Array.setIfInBounds_comm _ _ hji]
      exact h3.2.2
end
/-- Does the marked operation wait for this one? -/
def waitsB (ops : Array Oper) (m i : Nat) : Bool :=
  match ops[m]? with
  | some om => om.after.any fun e => Region.binds .any e && e.on == i
  | none => true
theorem waitsB_spec {ops : Array Oper} {m i : Nat} (h : waitsB ops m i = true) : ∀ om, ops[m]? = some om → ∃ e ∈ om.after, Region.binds .any e = true ∧ e.on = i := by
  intro om hom
  unfold waitsB at h
  rw [hom] at h
  simp only [Array.any_eq_true'] at h
  obtain ⟨e, he, hb⟩ := h
  rw [Bool.and_eq_true, beq_iff_eq] at hb
  exact ⟨e, he, hb.1, hb.2⟩
section
variable {P : Program} {ops : Array Oper} {Q : Exit → Act → World → Prop} {a : Act} {w W : World} {N : Nat} {l : List (Nat × Value)} {s : List Asr} {fuel m : Nat} {listed : Array Bool}
theorem wr_marked {id : Nat} {l : List Oper} (m : Nat) (hm : P.follows .mixedOrders = true)
    (h : wpAnyM P .any l.toArray Q (St W s) m l.length (Array.replicate l.length false) a w.drew) : (Code.region id l.toArray true).wp P Q a w :=
  wp_region_any hm (wpAny_of_M _ _ _ _ (by simpa using h))
theorem wm_y {oi : Oper} (i : Nat) (hi : ops[i]? = some oi) (hs : Region.noSelect ops = true) (hf : Region.free .any ops listed i = true) (hr : (Region.ready .any ops listed).contains i = true) {v : Value} (hQ : ∀ c a w, Q (.panic c) (a.put oi.dst v) w → Q (.panic c) a w)
    (him : i ≠ m) (hdep : waitsB ops m i = true) (hml : listed.getD m true = false) (hg : oi.guard = none) (hF : Fr N a l) {d : Nat} (hd : oi.dst = some d) (hN : Nat.blt d N = true) (hy : ∀ w, St W s w → Yl P w oi a v) (hS : St W s w) (h : ∀ a', Fr N a' ((d, v) :: l) → wpAnyM P .any ops Q (St W s) m fuel (listed.setIfInBounds i true) a' w) : wpAnyM P .any ops Q (St W s) m (fuel + 1) listed a w :=
  wpAnyM_first hi (Region.noSelect_spec hs) hQ him (waitsB_spec hdep) fuel listed a w (Region.free_spec hi hf) (by simpa using hr) (.inl ⟨wanted_none hg, hy⟩) hml hS (hd ▸ h _ (hF.put (Nat.le_of_ble_eq_true hN) v))
theorem wm_t {oi : Oper} (i : Nat) (hi : ops[i]? = some oi) (hs : Region.noSelect ops = true) (hf : Region.free .any ops listed i = true) (hr : (Region.ready .any ops listed).contains i = true) {v : Value} (hQ : ∀ c a w, Q (.panic c) (a.put oi.dst v) w → Q (.panic c) a w)
    (him : i ≠ m) (hg : oi.guard = none) (hF : Fr N a l) {d : Nat} (hd : oi.dst = some d) (hN : Nat.blt d N = true) (hy : ∀ w, True → Yl P w oi a v) (hS : listed.getD m true = false → St W s w) (h : ∀ a', Fr N a' ((d, v) :: l) → wpAnyM P .any ops Q (St W s) m fuel (listed.setIfInBounds i true) a' w) : wpAnyM P .any ops Q (St W s) m (fuel + 1) listed a w :=
  wpAnyM_firstT hi (Region.noSelect_spec hs) hQ him fuel listed a w (Region.free_spec hi hf) (by simpa using hr) (.inl ⟨wanted_none hg, hy⟩) hS (hd ▸ h _ (hF.put (Nat.le_of_ble_eq_true hN) v))
theorem wm_one (i : Nat) (hr : Region.ready .any ops listed = [i]) (h : wpOp P ops Q i (fun a' w' => ((listed.setIfInBounds i true).getD m true = false → St W s w') ∧ wpAnyM P .any ops Q (St W s) m fuel (listed.setIfInBounds i true) a' w') a w) : wpAnyM P .any ops Q (St W s) m (fuel + 1) listed a w :=
  ⟨fun h0 => (by rw [hr] at h0; cases h0), fun j hj => (by rw [hr] at hj; obtain rfl := List.mem_singleton.1 hj; exact h)⟩
theorem wm_done (hr : Region.ready .any ops listed = []) (h : Q .normal a w) : ∀ {fuel : Nat}, wpAnyM P .any ops Q (St W s) m fuel listed a w
  | 0 => ⟨hr, h⟩
  | _ + 1 => ⟨fun _ => h, by rw [hr]; simp⟩
end
end Go.Proofs.YtoaopmkbfifhaaaGreatDoor

/- Disks in rows, put in and taken out; copies. -/
namespace Go.Proofs.YtoaopmkbfifhaaaGreatDoor
set_option linter.unusedVariables false
set_option linter.unusedSimpArgs false
set_option maxHeartbeats 1000000
set_option maxRecDepth 100000
open Go.RowKit

theorem St.swap {W w : World} {a b : Asr} {F : List Asr} (h : St W (a :: b :: F) w) : St W (b :: a :: F) w := h.perm (List.Perm.swap ..)
theorem St.midl {W w : World} {L C F : List Asr} (h : St W (L ++ (C ++ F)) w) : St W (C ++ (L ++ F)) w := by
  refine h.perm ?_
  rw [← List.append_assoc, ← List.append_assoc]
  exact (List.perm_append_comm).append_right F
theorem getD_get {α : Type} [Inhabited α] {xs : List α} {k : Nat} (h : k < xs.length) : xs.getD k default = xs[k] := by simp [List.getD, h]
/-- A disk out of a set of disks. -/
theorem St.hdOut {W w : World} {F : List Asr} {qs : List HD} (h : St W (sepA (qs.map HD.asr) :: F) w) (k : Nat) (hk : k < qs.length) : St W ((qs.getD k default).asr :: sepA ((qs.eraseIdx k).map HD.asr) :: F) w := by
  have h1 := St.join.2 h
  rw [getD_get hk]
  have hp : (qs.map HD.asr ++ F).Perm ((qs.eraseIdx k).map HD.asr ++ (qs[k].asr :: F)) := by
    refine (((pick_perm qs k hk).map HD.asr).append_right F).trans ?_
    rw [List.map_cons, List.cons_append]
    exact (List.perm_middle).symm
  exact (St.join.1 (h1.perm hp)).swap
theorem St.hdIn {W w : World} {F : List Asr} {qs : List HD} {q : HD} {k : Nat} (h : St W (q.asr :: sepA ((qs.eraseIdx k).map HD.asr) :: F) w) (hk : k < qs.length) : St W (sepA ((qs.set k q).map HD.asr) :: F) w := by
  have h1 := St.join.2 h.swap
  refine St.join.1 (h1.perm ?_)
  refine (List.perm_middle).trans ?_
  rw [← List.cons_append, ← List.map_cons]
  exact (((set_pick qs k q hk).map HD.asr).append_right F)
theorem St.hdSnoc {W w : World} {F : List Asr} {qs : List HD} {q : HD} (h : St W (q.asr :: sepA (qs.map HD.asr) :: F) w) : St W (sepA ((qs ++ [q]).map HD.asr) :: F) w := by
  have h1 := St.join.2 h.swap
  refine St.join.1 (h1.perm ?_)
  rw [List.map_append, List.map_cons, List.map_nil, List.append_assoc]
  exact List.Perm.refl _
theorem St.hdNil {W w : World} {F : List Asr} (h : St W F w) : St W (sepA (([] : List HD).map HD.asr) :: F) w := (St.join (r := []) (s := F)).1 h
theorem dsOf_append (ps qs : List HD) : dsOf (ps ++ qs) = dsOf ps ++ dsOf qs := List.map_append ..
theorem dsOf_take_succ (ps : List HD) (k : Nat) (hk : k < ps.length) : dsOf (ps.take (k + 1)) = dsOf (ps.take k) ++ [(ps.getD k default).d] := by
  rw [List.take_succ_eq_append_getElem hk, dsOf_append, getD_get hk]; rfl
theorem elemD : ElemT Tryz.prog 32 94 3 56 := by
  obtain ⟨i0, hi, hz0, hz1, hz2⟩ := info_parts (P := Tryz.prog) (e := 94) (z := .agg #[.slice none 0 0, .slice none 0 0, .bool false]) (size := 3) (bytes := 56) (by kernel_rfl)
  exact ⟨Tryz.underlying32, ⟨i0, _, hi, hz0, hz1, hz2, rfl⟩, by decide⟩
theorem cells_one_D (xs : List HD) : ∀ u ∈ xs.flatMap HD.cells, u.oneCell' = true := by
  intro u hu
  obtain ⟨x, _, hx⟩ := List.mem_flatMap.1 hu
  simp only [HD.cells, List.mem_cons, List.not_mem_nil, or_false] at hx
  rcases hx with rfl | rfl | rfl <;> rfl
/-- A copy of a disk, as a header and its rows. -/
theorem hd_of_own {w w' : World} {v : Value} {d : DiskD} (h : DiskD.Own w' w.heap.size w'.heap.size v d) (hb : Below w.heap.size w w') : ∃ q : HD, q.d = d ∧ v = .agg #[.slice q.a0 q.d.fCells.length q.c0, .slice q.a1 q.d.fWaits.length q.c1, .bool q.d.fGone] ∧ St w [q.asr] w' := by
  obtain ⟨a0, c0, a1, c1, rfl, hs⟩ := DiskD.own_st h hb
  exact ⟨⟨a0, c0, a1, c1, d⟩, rfl, rfl, (St.join (r := [_, _]) (s := [])).1 hs⟩
theorem l3CopyH_any (p : HD) (w0 : World) (hr : p.reads w0) (hf : p.d.fits) : Calls Tryz.prog 64 #[.agg #[.slice p.a0 p.d.fCells.length p.c0, .slice p.a1 p.d.fWaits.length p.c1, .bool p.d.fGone]] w0 fun e w' => ∃ q : HD, q.d = p.d ∧ e = .returned (.agg #[.slice q.a0 q.d.fCells.length q.c0, .slice q.a1 q.d.fWaits.length q.c1, .bool q.d.fGone]) ∧ St w0 [q.asr] w' := by
  refine (l3Copy_any _ p.d w0 ⟨_, _, _, _, rfl, hr.rc, hr.rw⟩ hf.c hf.w).mono ?_
  rintro e w' ⟨v, rfl, ho, hb⟩
  obtain ⟨q, h1, rfl, h3⟩ := hd_of_own ho hb
  exact ⟨q, h1, rfl, h3⟩

theorem clone_any (p : HD) (w0 : World) (hr : p.reads w0) (hf : p.d.fits) : Calls Tryz.prog 77 #[.agg #[.slice p.a0 p.d.fCells.length p.c0, .slice p.a1 p.d.fWaits.length p.c1, .bool p.d.fGone]] w0 fun e w' => ∃ q : HD, q.d = p.d ∧ e = .returned (.agg #[.slice q.a0 q.d.fCells.length q.c0, .slice q.a1 q.d.fWaits.length q.c1, .bool q.d.fGone]) ∧ St w0 [q.asr] w' := by
 have HP := Bx.mk hr
 clear hr
 have HS := Bx.mk (St.start w0)
 refine wc_enter Tryz.func77 rfl Tryz.ntmps77 [(0, .agg #[.slice p.a0 p.d.fCells.length p.c0, .slice p.a1 p.d.fWaits.length p.c1, .bool p.d.fGone])] ⟨rfl, trivial⟩ rfl ?_; intro a HF
 refine wp_sr ?_
 refine wl_box rfl HF rfl (HF.ev rfl) (Z := [.slice p.a0 p.d.fCells.length p.c0, .slice p.a1 p.d.fWaits.length p.c1, .bool p.d.fGone]) rfl rfl rfl rfl HS.out ?_; clear HF HS a; intro a w1 b1 HF HS; replace HS := Bx.mk HS
 refine wl_alloc rfl HF rfl rfl rfl (Z := [.slice none 0 0, .slice none 0 0, .bool false]) (by kernel_rfl) rfl HS.out ?_; clear HF HS a; intro a w2 b2 HF HS; replace HS := Bx.mk HS
 refine wl_ne ?_
 refine wp_seq ?_
 refine wr_heldS (s := [boxA b1 3 94 (.agg #[.slice p.a0 p.d.fCells.length p.c0, .slice p.a1 p.d.fWaits.length p.c1, .bool p.d.fGone])]) (by kernel_rfl) (St.drew ((HS.out.erase 0))) ?_
 have HS2 := Bx.mk HS.out.drew; replace HS := Bx.mk (show St w0 ([boxA b1 3 94 (.agg #[.slice p.a0 p.d.fCells.length p.c0, .slice p.a1 p.d.fWaits.length p.c1, .bool p.d.fGone])]) _ from (HS.out.drew.erase 0))
 generalize World.drew _ = w3 at HS HS2 ⊢
 refine zh 0 rfl HF (fun _ HS => (yfa 0 rfl (HF.ev rfl))) HS.out ?_; clear HF a; intro a HF
 refine zh 1 rfl HF (fun _ HS => (ylo (v := .slice p.a0 p.d.fCells.length p.c0) rfl (HF.ev rfl) (((HS.box 0 rfl).cell 0).trans rfl))) HS.out ?_; clear HF a; intro a HF
 refine zh 3 rfl HF (fun _ HS => (yfa 1 rfl (HF.ev rfl))) HS.out ?_; clear HF a; intro a HF
 refine zh 4 rfl HF (fun _ HS => (ylo (v := .slice p.a1 p.d.fWaits.length p.c1) rfl (HF.ev rfl) (((HS.box 0 rfl).cell 1).trans rfl))) HS.out ?_; clear HF a; intro a HF
 refine zh 6 rfl HF (fun _ HS => (yfa 2 rfl (HF.ev rfl))) HS.out ?_; clear HF a; intro a HF
 refine zh 7 rfl HF (fun _ HS => (ylo (v := .bool p.d.fGone) rfl (HF.ev rfl) (((HS.box 0 rfl).cell 2).trans rfl))) HS.out ?_; clear HF a; intro a HF
 refine wh_one 2 (by kernel_rfl) ?_
 refine wo_call rfl rfl HF rfl (enter_of Tryz.func122 (by kernel_rfl) rfl) (args := #[.slice p.a0 p.d.fCells.length p.c0]) rfl (cloneS_any _ _ p.d.fCells _ (by have := hf.c; omega) (HP.out.rc.below HS2.out.bel)) rfl rfl ?_
 rintro _ w5 ⟨⟨ao3, cp4, rfl, ho⟩, hb⟩
 refine ⟨_, rfl, ?_⟩; replace HS := Bx.mk (HS.out.later hb); replace HS2 := Bx.mk (HS2.out.add (St.ofRow ho hb)); clear ho hb HF; clear a; intro a HF; refine ⟨HS.out, ?_⟩
 replace HS2 : Bx (St w0 ([rowA encS 1 9 (.slice ao3 p.d.fCells.length cp4) p.d.fCells, boxA b2 3 94 (.agg #[.slice none 0 0, .slice none 0 0, .bool false]), boxA b1 3 94 (.agg #[.slice p.a0 p.d.fCells.length p.c0, .slice p.a1 p.d.fWaits.length p.c1, .bool p.d.fGone])]) _) := ⟨HS2.out⟩
 refine wh_one 5 (by kernel_rfl) ?_
 refine wo_call rfl rfl HF rfl (enter_of Tryz.func123 (by kernel_rfl) rfl) (args := #[.slice p.a1 p.d.fWaits.length p.c1]) rfl (cloneW_any _ _ p.d.fWaits _ (by have := hf.w; omega) (HP.out.rw.below HS2.out.bel)) rfl rfl ?_
 rintro _ w7 ⟨⟨ao6, cp7, rfl, ho⟩, hb⟩
 refine ⟨_, rfl, ?_⟩; replace HS := Bx.mk (HS.out.later hb); replace HS2 := Bx.mk (HS2.out.add (St.ofRow ho hb)); clear ho hb HF; clear a; intro a HF; refine ⟨HS.out, ?_⟩
 replace HS2 : Bx (St w0 ([rowA WaitD.cells 2 137 (.slice ao6 p.d.fWaits.length cp7) p.d.fWaits, rowA encS 1 9 (.slice ao3 p.d.fCells.length cp4) p.d.fCells, boxA b2 3 94 (.agg #[.slice none 0 0, .slice none 0 0, .bool false]), boxA b1 3 94 (.agg #[.slice p.a0 p.d.fCells.length p.c0, .slice p.a1 p.d.fWaits.length p.c1, .bool p.d.fGone])]) _) := ⟨HS2.out⟩
 refine zh 8 rfl HF (fun _ HS => (yl_build HF rfl (ps := [(0, .slice ao3 p.d.fCells.length cp4), (1, .slice ao6 p.d.fWaits.length cp7), (2, .bool p.d.fGone)]) rfl (cs := #[.slice ao3 p.d.fCells.length cp4, .slice ao6 p.d.fWaits.length cp7, .bool p.d.fGone]) (by kernel_rfl))) HS.out ?_; clear HF a; intro a HF
 refine wh_one 9 (by kernel_rfl) ?_
 refine wo_storeBox rfl rfl rfl rfl (HF.ev rfl) (HF.ev rfl) HS2.out 2 rfl (cells_lit [.slice ao3 p.d.fCells.length cp4, .slice ao6 p.d.fWaits.length cp7, .bool p.d.fGone] rfl rfl) (by kernel_rfl) ?_
 clear HS HS2; intro w8 HS2; replace HS2 : Bx (St w0 ([rowA WaitD.cells 2 137 (.slice ao6 p.d.fWaits.length cp7) p.d.fWaits, rowA encS 1 9 (.slice ao3 p.d.fCells.length cp4) p.d.fCells, boxA b2 3 94 (.agg #[.slice ao3 p.d.fCells.length cp4, .slice ao6 p.d.fWaits.length cp7, .bool p.d.fGone]), boxA b1 3 94 (.agg #[.slice p.a0 p.d.fCells.length p.c0, .slice p.a1 p.d.fWaits.length p.c1, .bool p.d.fGone])]) _) := ⟨HS2⟩
 have HS : Bx (St w0 ([boxA b1 3 94 (.agg #[.slice p.a0 p.d.fCells.length p.c0, .slice p.a1 p.d.fWaits.length p.c1, .bool p.d.fGone])]) _) := ⟨(((HS2.out.erase 2).erase 1).erase 0)⟩; refine ⟨HS.out, ?_⟩
 refine wh_done (by kernel_rfl) ?_
 replace HS := HS2; clear HS2
 refine ex_then ?_
 refine wp_ret ?_
 refine bp_ret1 HF Tryz.results77 (HF.resBox rfl (HS.out.box 2 rfl) (by kernel_rfl)) ?_
 replace HS : Bx (St w0 ([rowA encS 1 9 (.slice ao3 p.d.fCells.length cp4) p.d.fCells, rowA WaitD.cells 2 137 (.slice ao6 p.d.fWaits.length cp7) p.d.fWaits, boxA b2 3 94 (.agg #[.slice ao3 p.d.fCells.length cp4, .slice ao6 p.d.fWaits.length cp7, .bool p.d.fGone]), boxA b1 3 94 (.agg #[.slice p.a0 p.d.fCells.length p.c0, .slice p.a1 p.d.fWaits.length p.c1, .bool p.d.fGone])]) _) := ⟨((HS.out).pick 0 rfl).pick 1 rfl⟩
 exact ⟨⟨ao3, cp4, ao6, cp7, p.d⟩, rfl, rfl, (St.join (r := [_, _]) (s := [])).1 (((HS.out.erase 3).erase 2))⟩

def DiskD.putD (d : DiskD) (n : Int) (t : ByteArray) : DiskD := { d with fWaits := d.fWaits ++ [(⟨n, t⟩ : WaitD)] }
theorem ok_waits {d : DiskD} (h : d.ok = true) : d.fCells.length = 64 ∧ d.fWaits.length ≤ 120 := by
  unfold DiskD.ok at h
  simp only [Bool.and_eq_true, decide_eq_true_eq] at h
  exact ⟨h.1, h.2.1⟩

theorem diskWrite_any (p : HD) (n : Int) (t : ByteArray) (w0 : World) (hr : p.reads w0) (hf : p.d.fits) (hok : p.d.ok = true) (ht : t.size ≤ 9223372036854775806) : Calls Tryz.prog 78 #[.agg #[.slice p.a0 p.d.fCells.length p.c0, .slice p.a1 p.d.fWaits.length p.c1, .bool p.d.fGone], .int .i64 n, .string t] w0 fun e w' => (p.d.can n t = false ∧ ∃ q : HD, e = .returned (.tuple #[.agg #[.slice q.a0 q.d.fCells.length q.c0, .slice q.a1 q.d.fWaits.length q.c1, .bool q.d.fGone], .bool false]) ∧ St w0 [q.asr] w') ∨ (p.d.can n t = true ∧ ∃ q : HD, q.d = p.d.putD n t ∧ e = .returned (.tuple #[.agg #[.slice q.a0 q.d.fCells.length q.c0, .slice q.a1 q.d.fWaits.length q.c1, .bool q.d.fGone], .bool true]) ∧ St w0 [q.asr] w') := by
 have HP := Bx.mk hr
 clear hr
 have hok2 := ok_waits hok
 have HS := Bx.mk (St.start w0)
 refine wc_enter Tryz.func78 rfl Tryz.ntmps78 [(0, .agg #[.slice p.a0 p.d.fCells.length p.c0, .slice p.a1 p.d.fWaits.length p.c1, .bool p.d.fGone]), (1, .int .i64 n), (2, .string t)] ⟨rfl, rfl, rfl, trivial⟩ rfl ?_; intro a HF
 refine wp_sr ?_
 refine wl_box rfl HF rfl (HF.ev rfl) (Z := [.slice p.a0 p.d.fCells.length p.c0, .slice p.a1 p.d.fWaits.length p.c1, .bool p.d.fGone]) rfl rfl rfl rfl HS.out ?_; clear HF HS a; intro a w1 b1 HF HS; replace HS := Bx.mk HS
 refine wl_alloc rfl HF rfl rfl rfl (Z := [.slice none 0 0, .slice none 0 0, .bool false]) (by kernel_rfl) rfl HS.out ?_; clear HF HS a; intro a w2 b2 HF HS; replace HS := Bx.mk HS
 refine za HF ?_; clear HF a; intro a HF
 refine wl_ne ?_
 refine wp_seq ?_
 refine wp_sr ?_
 refine zy HF (ylr (cs := [.slice p.a0 p.d.fCells.length p.c0, .slice p.a1 p.d.fWaits.length p.c1, .bool p.d.fGone]) rfl (HF.ev rfl) ((HS.out.box 1 rfl).sub 0 3)) ?_; clear HF a; intro a HF
 refine wl_callB rfl HF rfl (enter_of Tryz.func73 (by kernel_rfl) rfl) (args := #[.agg #[.slice p.a0 p.d.fCells.length p.c0, .slice p.a1 p.d.fWaits.length p.c1, .bool p.d.fGone]]) rfl (v := .bool true) ((by have := implDiskOk_any p.a0 p.c0 p.a1 p.c1 p.d _ hf.c hf.w hf.cz hf.wz (HP.out.below HS.out.bel).rc (HP.out.below HS.out.bel).rw; rw [hok] at this; exact this)) rfl rfl HS.out ?_; clear HF HS a; intro w3 a HS HF; replace HS := Bx.mk HS
 refine zy HF (yl_not rfl (HF.ev rfl)) ?_; clear HF a; intro a HF
 refine wl_ne ?_
 refine wc_false HF rfl ?_
 refine wp_skip ?_
 refine ex_then ?_
 refine wp_sr ?_
 refine zy HF (ylr (cs := [.slice p.a0 p.d.fCells.length p.c0, .slice p.a1 p.d.fWaits.length p.c1, .bool p.d.fGone]) rfl (HF.ev rfl) ((HS.out.box 1 rfl).sub 0 3)) ?_; clear HF a; intro a HF
 refine wl_call rfl HF rfl (enter_of Tryz.func77 (by kernel_rfl) rfl) (args := #[.agg #[.slice p.a0 p.d.fCells.length p.c0, .slice p.a1 p.d.fWaits.length p.c1, .bool p.d.fGone]]) rfl (clone_any p _ (HP.out.below HS.out.bel) hf) rfl rfl ?_
 rintro _ w4 ⟨⟨qa3, qc3, qb3, qe3, qd⟩, hqd, rfl, hs⟩; obtain rfl : qd = p.d := hqd; refine ⟨_, rfl, ?_⟩
 replace HS := Bx.mk (St.join.2 (HS.out.add hs));clear hs HF a;intro a HF
 try dsimp only [List.eraseIdx] at HS
 refine wl_alloc rfl HF rfl rfl rfl (Z := [.slice none 0 0, .slice none 0 0, .bool false]) (by kernel_rfl) rfl HS.out ?_; clear HF HS a; intro a w5 b4 HF HS; replace HS := Bx.mk HS
 refine wl_storeBox rfl HF rfl rfl (HF.ev rfl) (HF.ev rfl) HS.out 0 rfl (cells_lit [.slice qa3 p.d.fCells.length qc3, .slice qb3 p.d.fWaits.length qe3, .bool p.d.fGone] rfl rfl) (by kernel_rfl) ?_; clear HS; intro w6 HS; replace HS := Bx.mk HS
 have HS : Bx (St w0 ([boxA b4 3 94 (.agg #[.slice qa3 p.d.fCells.length qc3, .slice qb3 p.d.fWaits.length qe3, .bool p.d.fGone]), rowA encS 1 9 (.slice qa3 p.d.fCells.length qc3) p.d.fCells, rowA WaitD.cells 2 137 (.slice qb3 p.d.fWaits.length qe3) p.d.fWaits, boxA b2 3 94 (.agg #[.slice none 0 0, .slice none 0 0, .bool false]), boxA b1 3 94 (.agg #[.slice p.a0 p.d.fCells.length p.c0, .slice p.a1 p.d.fWaits.length p.c1, .bool p.d.fGone])]) _) := HS
 refine wl_ne ?_
 refine wp_seq ?_
 refine wp_sr ?_
 refine zy HF (yfa 2 rfl (HF.ev rfl)) ?_; clear HF a; intro a HF
 refine zy HF (ylo (v := .bool p.d.fGone) rfl (HF.ev rfl) (((HS.out.box 4 rfl).cell 2).trans rfl)) ?_; clear HF a; intro a HF
 refine zm HF ?_; clear HF a; intro a HF
 refine HF.cases 17 rfl (fun cc1 _ => ?_) fun cc1 _ => ?_
 ·clear HF;rename_i HF
  have q1 : p.d.fGone = true := cc1
  refine zk HF ?_; clear HF a; intro a HF
  refine zk HF ?_; clear HF a; intro a HF
  refine zk HF ?_; clear HF a; intro a HF
  refine zy HF (yl_pick_t rfl (HF.ev rfl) (HF.ev rfl)) ?_; clear HF a; intro a HF
  refine zm HF ?_; clear HF a; intro a HF
  refine zk HF ?_; clear HF a; intro a HF
  refine zk HF ?_; clear HF a; intro a HF
  refine zk HF ?_; clear HF a; intro a HF
  refine zy HF (yl_pick_t rfl (HF.ev rfl) (HF.ev rfl)) ?_; clear HF a; intro a HF
  refine zm HF ?_; clear HF a; intro a HF
  refine zk HF ?_; clear HF a; intro a HF
  refine zk HF ?_; clear HF a; intro a HF
  refine zk HF ?_; clear HF a; intro a HF
  refine zk HF ?_; clear HF a; intro a HF
  refine zy HF (yl_pick_t rfl (HF.ev rfl) (HF.ev rfl)) ?_; clear HF a; intro a HF
  refine wl_ne ?_
  refine wc_true HF rfl ?_
  refine wp_sr ?_
  refine zy HF (ylr (cs := [.slice qa3 p.d.fCells.length qc3, .slice qb3 p.d.fWaits.length qe3, .bool p.d.fGone]) rfl (HF.ev rfl) ((HS.out.box 0 rfl).sub 0 3)) ?_; clear HF a; intro a HF
  refine wl_storeBox rfl HF rfl rfl (HF.ev rfl) (HF.ev rfl) HS.out 3 rfl (cells_lit [.slice qa3 p.d.fCells.length qc3, .slice qb3 p.d.fWaits.length qe3, .bool p.d.fGone] rfl rfl) (by kernel_rfl) ?_; clear HS; intro w7 HS; replace HS := Bx.mk HS
  have HS : Bx (St w0 ([boxA b4 3 94 (.agg #[.slice qa3 p.d.fCells.length qc3, .slice qb3 p.d.fWaits.length qe3, .bool p.d.fGone]), rowA encS 1 9 (.slice qa3 p.d.fCells.length qc3) p.d.fCells, rowA WaitD.cells 2 137 (.slice qb3 p.d.fWaits.length qe3) p.d.fWaits, boxA b2 3 94 (.agg #[.slice qa3 p.d.fCells.length qc3, .slice qb3 p.d.fWaits.length qe3, .bool p.d.fGone]), boxA b1 3 94 (.agg #[.slice p.a0 p.d.fCells.length p.c0, .slice p.a1 p.d.fWaits.length p.c1, .bool p.d.fGone])]) _) := HS
  refine za HF ?_; clear HF a; intro a HF
  refine wl_ne ?_
  refine wp_ret ?_
  refine ex_then_ret ?_
  refine bp_ret2 HF Tryz.results78 (HF.resBox rfl (HS.out.box 3 rfl) (by kernel_rfl)) (HF.res rfl) ?_
  replace HS : Bx (St w0 ([rowA encS 1 9 (.slice qa3 p.d.fCells.length qc3) p.d.fCells, rowA WaitD.cells 2 137 (.slice qb3 p.d.fWaits.length qe3) p.d.fWaits, boxA b4 3 94 (.agg #[.slice qa3 p.d.fCells.length qc3, .slice qb3 p.d.fWaits.length qe3, .bool p.d.fGone]), boxA b2 3 94 (.agg #[.slice qa3 p.d.fCells.length qc3, .slice qb3 p.d.fWaits.length qe3, .bool p.d.fGone]), boxA b1 3 94 (.agg #[.slice p.a0 p.d.fCells.length p.c0, .slice p.a1 p.d.fWaits.length p.c1, .bool p.d.fGone])]) _) := ⟨((HS.out).pick 2 rfl).pick 2 rfl⟩
  exact .inl ⟨by unfold DiskD.can; rw [q1]; rfl, ⟨qa3, qc3, qb3, qe3, p.d⟩, rfl, (St.join (r := [_, _]) (s := [])).1 ((((HS.out.erase 4).erase 3).erase 2))⟩
 ·clear HF;rename_i HF
  have q1 : p.d.fGone = false := cc1
  refine zg HF (yl_move rfl (HF.ev rfl)) ?_; clear HF a; intro a HF
  refine wl_callBg HF rfl rfl rfl rfl (enter_of Tryz.func119 (by kernel_rfl) rfl) (args := #[.int .i64 n]) rfl (v := .bool (inB n 0 63)) (isCell_any n _) rfl rfl HS.out ?_; clear HF HS a; intro w8 a HS HF; replace HS := Bx.mk HS
  refine zg HF (yl_not rfl (HF.ev rfl)) ?_; clear HF a; intro a HF
  refine zy HF (yl_pick_f rfl (HF.ev rfl) (HF.ev rfl)) ?_; clear HF a; intro a HF
  refine zm HF ?_; clear HF a; intro a HF
  refine HF.cases 22 rfl (fun cc2 _ => ?_) fun cc2 _ => ?_
  ·clear HF;rename_i HF
   have q2 : inB n 0 63 = false := by simpa using cc2
   refine zk HF ?_; clear HF a; intro a HF
   refine zk HF ?_; clear HF a; intro a HF
   refine zk HF ?_; clear HF a; intro a HF
   refine zy HF (yl_pick_t rfl (HF.ev rfl) (HF.ev rfl)) ?_; clear HF a; intro a HF
   refine zm HF ?_; clear HF a; intro a HF
   refine zk HF ?_; clear HF a; intro a HF
   refine zk HF ?_; clear HF a; intro a HF
   refine zk HF ?_; clear HF a; intro a HF
   refine zk HF ?_; clear HF a; intro a HF
   refine zy HF (yl_pick_t rfl (HF.ev rfl) (HF.ev rfl)) ?_; clear HF a; intro a HF
   refine wl_ne ?_
   refine wc_true HF rfl ?_
   refine wp_sr ?_
   refine zy HF (ylr (cs := [.slice qa3 p.d.fCells.length qc3, .slice qb3 p.d.fWaits.length qe3, .bool p.d.fGone]) rfl (HF.ev rfl) ((HS.out.box 0 rfl).sub 0 3)) ?_; clear HF a; intro a HF
   refine wl_storeBox rfl HF rfl rfl (HF.ev rfl) (HF.ev rfl) HS.out 3 rfl (cells_lit [.slice qa3 p.d.fCells.length qc3, .slice qb3 p.d.fWaits.length qe3, .bool p.d.fGone] rfl rfl) (by kernel_rfl) ?_; clear HS; intro w9 HS; replace HS := Bx.mk HS
   have HS : Bx (St w0 ([boxA b4 3 94 (.agg #[.slice qa3 p.d.fCells.length qc3, .slice qb3 p.d.fWaits.length qe3, .bool p.d.fGone]), rowA encS 1 9 (.slice qa3 p.d.fCells.length qc3) p.d.fCells, rowA WaitD.cells 2 137 (.slice qb3 p.d.fWaits.length qe3) p.d.fWaits, boxA b2 3 94 (.agg #[.slice qa3 p.d.fCells.length qc3, .slice qb3 p.d.fWaits.length qe3, .bool p.d.fGone]), boxA b1 3 94 (.agg #[.slice p.a0 p.d.fCells.length p.c0, .slice p.a1 p.d.fWaits.length p.c1, .bool p.d.fGone])]) _) := HS
   refine za HF ?_; clear HF a; intro a HF
   refine wl_ne ?_
   refine wp_ret ?_
   refine ex_then_ret ?_
   refine bp_ret2 HF Tryz.results78 (HF.resBox rfl (HS.out.box 3 rfl) (by kernel_rfl)) (HF.res rfl) ?_
   replace HS : Bx (St w0 ([rowA encS 1 9 (.slice qa3 p.d.fCells.length qc3) p.d.fCells, rowA WaitD.cells 2 137 (.slice qb3 p.d.fWaits.length qe3) p.d.fWaits, boxA b4 3 94 (.agg #[.slice qa3 p.d.fCells.length qc3, .slice qb3 p.d.fWaits.length qe3, .bool p.d.fGone]), boxA b2 3 94 (.agg #[.slice qa3 p.d.fCells.length qc3, .slice qb3 p.d.fWaits.length qe3, .bool p.d.fGone]), boxA b1 3 94 (.agg #[.slice p.a0 p.d.fCells.length p.c0, .slice p.a1 p.d.fWaits.length p.c1, .bool p.d.fGone])]) _) := ⟨((HS.out).pick 2 rfl).pick 2 rfl⟩
   exact .inl ⟨by unfold DiskD.can; rw [q1, q2]; rfl, ⟨qa3, qc3, qb3, qe3, p.d⟩, rfl, (St.join (r := [_, _]) (s := [])).1 ((((HS.out.erase 4).erase 3).erase 2))⟩
  ·clear HF;rename_i HF
   have q2 : inB n 0 63 = true := by simpa using cc2
   refine zg HF (yl_move rfl (HF.ev rfl)) ?_; clear HF a; intro a HF
   refine zg HF (yl_lenS rfl (HF.ev rfl) (by kernel_rfl)) ?_; clear HF a; intro a HF
   refine zg HF (yl_gtrI rfl (HF.ev rfl) (HF.ev rfl)) ?_; clear HF a; intro a HF
   refine zy HF (yl_pick_f rfl (HF.ev rfl) (HF.ev rfl)) ?_; clear HF a; intro a HF
   refine zm HF ?_; clear HF a; intro a HF
   refine HF.cases 27 rfl (fun cc3 _ => ?_) fun cc3 _ => ?_
   ·clear HF;rename_i HF
    have q3 : decide (t.size ≤ 200) = false := decide_eq_false (by have := of_decide_eq_true cc3; omega)
    refine zk HF ?_; clear HF a; intro a HF
    refine zk HF ?_; clear HF a; intro a HF
    refine zk HF ?_; clear HF a; intro a HF
    refine zk HF ?_; clear HF a; intro a HF
    refine zy HF (yl_pick_t rfl (HF.ev rfl) (HF.ev rfl)) ?_; clear HF a; intro a HF
    refine wl_ne ?_
    refine wc_true HF rfl ?_
    refine wp_sr ?_
    refine zy HF (ylr (cs := [.slice qa3 p.d.fCells.length qc3, .slice qb3 p.d.fWaits.length qe3, .bool p.d.fGone]) rfl (HF.ev rfl) ((HS.out.box 0 rfl).sub 0 3)) ?_; clear HF a; intro a HF
    refine wl_storeBox rfl HF rfl rfl (HF.ev rfl) (HF.ev rfl) HS.out 3 rfl (cells_lit [.slice qa3 p.d.fCells.length qc3, .slice qb3 p.d.fWaits.length qe3, .bool p.d.fGone] rfl rfl) (by kernel_rfl) ?_; clear HS; intro w10 HS; replace HS := Bx.mk HS
    have HS : Bx (St w0 ([boxA b4 3 94 (.agg #[.slice qa3 p.d.fCells.length qc3, .slice qb3 p.d.fWaits.length qe3, .bool p.d.fGone]), rowA encS 1 9 (.slice qa3 p.d.fCells.length qc3) p.d.fCells, rowA WaitD.cells 2 137 (.slice qb3 p.d.fWaits.length qe3) p.d.fWaits, boxA b2 3 94 (.agg #[.slice qa3 p.d.fCells.length qc3, .slice qb3 p.d.fWaits.length qe3, .bool p.d.fGone]), boxA b1 3 94 (.agg #[.slice p.a0 p.d.fCells.length p.c0, .slice p.a1 p.d.fWaits.length p.c1, .bool p.d.fGone])]) _) := HS
    refine za HF ?_; clear HF a; intro a HF
    refine wl_ne ?_
    refine wp_ret ?_
    refine ex_then_ret ?_
    refine bp_ret2 HF Tryz.results78 (HF.resBox rfl (HS.out.box 3 rfl) (by kernel_rfl)) (HF.res rfl) ?_
    replace HS : Bx (St w0 ([rowA encS 1 9 (.slice qa3 p.d.fCells.length qc3) p.d.fCells, rowA WaitD.cells 2 137 (.slice qb3 p.d.fWaits.length qe3) p.d.fWaits, boxA b4 3 94 (.agg #[.slice qa3 p.d.fCells.length qc3, .slice qb3 p.d.fWaits.length qe3, .bool p.d.fGone]), boxA b2 3 94 (.agg #[.slice qa3 p.d.fCells.length qc3, .slice qb3 p.d.fWaits.length qe3, .bool p.d.fGone]), boxA b1 3 94 (.agg #[.slice p.a0 p.d.fCells.length p.c0, .slice p.a1 p.d.fWaits.length p.c1, .bool p.d.fGone])]) _) := ⟨((HS.out).pick 2 rfl).pick 2 rfl⟩
    exact .inl ⟨by unfold DiskD.can; rw [q1, q2, q3]; rfl, ⟨qa3, qc3, qb3, qe3, p.d⟩, rfl, (St.join (r := [_, _]) (s := [])).1 ((((HS.out.erase 4).erase 3).erase 2))⟩
   ·clear HF;rename_i HF
    have q3 : decide (t.size ≤ 200) = true := decide_eq_true (by have := of_decide_eq_false cc3; omega)
    refine zg HF (yfa 1 rfl (HF.ev rfl)) ?_; clear HF a; intro a HF
    refine zg HF (ylo (v := .slice p.a1 p.d.fWaits.length p.c1) rfl (HF.ev rfl) (((HS.out.box 4 rfl).cell 1).trans rfl)) ?_; clear HF a; intro a HF
    refine zg HF (yl_lenL (e := 137) (size := 2) rfl (HF.ev rfl) (by kernel_rfl)) ?_; clear HF a; intro a HF
    refine zg HF (yl_eqlI rfl (HF.ev rfl) (HF.ev rfl)) ?_; clear HF a; intro a HF
    refine zy HF (yl_pick_f rfl (HF.ev rfl) (HF.ev rfl)) ?_; clear HF a; intro a HF
    refine wl_ne ?_
    refine HF.cases 32 rfl (fun cc4 _ => ?_) fun cc4 _ => ?_
    ·clear HF;rename_i HF
     have q4 : decide (p.d.fWaits.length < 120) = false := decide_eq_false (by have := eq_of_beq cc4; omega)
     refine wc_true HF rfl ?_
     refine wp_sr ?_
     refine zy HF (ylr (cs := [.slice qa3 p.d.fCells.length qc3, .slice qb3 p.d.fWaits.length qe3, .bool p.d.fGone]) rfl (HF.ev rfl) ((HS.out.box 0 rfl).sub 0 3)) ?_; clear HF a; intro a HF
     refine wl_storeBox rfl HF rfl rfl (HF.ev rfl) (HF.ev rfl) HS.out 3 rfl (cells_lit [.slice qa3 p.d.fCells.length qc3, .slice qb3 p.d.fWaits.length qe3, .bool p.d.fGone] rfl rfl) (by kernel_rfl) ?_; clear HS; intro w11 HS; replace HS := Bx.mk HS
     have HS : Bx (St w0 ([boxA b4 3 94 (.agg #[.slice qa3 p.d.fCells.length qc3, .slice qb3 p.d.fWaits.length qe3, .bool p.d.fGone]), rowA encS 1 9 (.slice qa3 p.d.fCells.length qc3) p.d.fCells, rowA WaitD.cells 2 137 (.slice qb3 p.d.fWaits.length qe3) p.d.fWaits, boxA b2 3 94 (.agg #[.slice qa3 p.d.fCells.length qc3, .slice qb3 p.d.fWaits.length qe3, .bool p.d.fGone]), boxA b1 3 94 (.agg #[.slice p.a0 p.d.fCells.length p.c0, .slice p.a1 p.d.fWaits.length p.c1, .bool p.d.fGone])]) _) := HS
     refine za HF ?_; clear HF a; intro a HF
     refine wl_ne ?_
     refine wp_ret ?_
     refine ex_then_ret ?_
     refine bp_ret2 HF Tryz.results78 (HF.resBox rfl (HS.out.box 3 rfl) (by kernel_rfl)) (HF.res rfl) ?_
     replace HS : Bx (St w0 ([rowA encS 1 9 (.slice qa3 p.d.fCells.length qc3) p.d.fCells, rowA WaitD.cells 2 137 (.slice qb3 p.d.fWaits.length qe3) p.d.fWaits, boxA b4 3 94 (.agg #[.slice qa3 p.d.fCells.length qc3, .slice qb3 p.d.fWaits.length qe3, .bool p.d.fGone]), boxA b2 3 94 (.agg #[.slice qa3 p.d.fCells.length qc3, .slice qb3 p.d.fWaits.length qe3, .bool p.d.fGone]), boxA b1 3 94 (.agg #[.slice p.a0 p.d.fCells.length p.c0, .slice p.a1 p.d.fWaits.length p.c1, .bool p.d.fGone])]) _) := ⟨((HS.out).pick 2 rfl).pick 2 rfl⟩
     exact .inl ⟨by unfold DiskD.can; rw [q1, q2, q3, q4]; rfl, ⟨qa3, qc3, qb3, qe3, p.d⟩, rfl, (St.join (r := [_, _]) (s := [])).1 ((((HS.out.erase 4).erase 3).erase 2))⟩
    ·clear HF;rename_i HF
     have q4 : decide (p.d.fWaits.length < 120) = true := decide_eq_true (by have := ne_of_beq_false cc4; omega)
     refine wc_false HF rfl ?_
     refine wp_skip ?_
     refine ex_then ?_
     refine wp_sr ?_
     refine zy HF (yfa 1 rfl (HF.ev rfl)) ?_; clear HF a; intro a HF
     refine zy HF (ylo (v := .slice qb3 p.d.fWaits.length qe3) rfl (HF.ev rfl) (((HS.out.box 0 rfl).cell 1).trans rfl)) ?_; clear HF a; intro a HF
     refine zm HF ?_; clear HF a; intro a HF
     refine zm HF ?_; clear HF a; intro a HF
     refine zy HF (yl_build HF rfl (ps := [(0, .int .i64 n), (1, .string t)]) rfl (cs := #[.int .i64 n, .string t]) (by kernel_rfl)) ?_; clear HF a; intro a HF
     refine wl_buildS (enc := WaitD.cells) (e := 137) (size := 2) rfl HF rfl rfl rfl (ps := [(0, .agg #[.int .i64 n, .string t])]) rfl (cells := [.int .i64 n, .string t]) (by kernel_rfl) [(⟨n, t⟩ : WaitD)] rfl rfl (by unfold maxLen; omega) rfl HS.out ?_; clear HF HS a; intro b5 a w12 HF HS; replace HS := Bx.mk HS
     refine wl_appL rfl HF rfl rfl rfl (HF.ev rfl) (HF.ev rfl) elemW WaitD.cells_len HS.out 3 (xs := p.d.fWaits) rfl (ys := [(⟨n, t⟩ : WaitD)]) (St.rdN HS.out WaitD.cells_len 0 rfl) (cells_one_W _) (by unfold maxLen; simp only [List.length_cons, List.length_nil]; omega) (by simp only [List.length_cons, List.length_nil]; omega) ?_; clear HF HS a; intro ao6 cp7 w13 a HF HS; replace HS := Bx.mk HS
     try dsimp only [List.eraseIdx] at HS
     refine zy HF (yfa 1 rfl (HF.ev rfl)) ?_; clear HF a; intro a HF
     refine wl_storeF rfl rfl rfl (HF.ev rfl) (HF.ev rfl) (by kernel_rfl) HS.out 1 rfl rfl rfl ?_; clear HS; intro w14 HS; replace HS := Bx.mk HS
     have HS : Bx (St w0 ([rowA WaitD.cells 2 137 (.slice (some ⟨b5, 0, none⟩) 1 1) ([(⟨n, t⟩ : WaitD)]), boxA b4 3 94 (.agg #[.slice qa3 p.d.fCells.length qc3, .slice ao6 (p.d.fWaits.length + ([(⟨n, t⟩ : WaitD)]).length) cp7, .bool p.d.fGone]), rowA encS 1 9 (.slice qa3 p.d.fCells.length qc3) p.d.fCells, rowA WaitD.cells 2 137 (.slice ao6 (p.d.fWaits.length + ([(⟨n, t⟩ : WaitD)]).length) cp7) (p.d.fWaits ++ ([(⟨n, t⟩ : WaitD)])), boxA b2 3 94 (.agg #[.slice none 0 0, .slice none 0 0, .bool false]), boxA b1 3 94 (.agg #[.slice p.a0 p.d.fCells.length p.c0, .slice p.a1 p.d.fWaits.length p.c1, .bool p.d.fGone])]) _) := HS
     refine wl_ne ?_
     refine wp_sr ?_
     refine zy HF (ylr (cs := [.slice qa3 p.d.fCells.length qc3, .slice ao6 (p.d.fWaits.length + ([(⟨n, t⟩ : WaitD)]).length) cp7, .bool p.d.fGone]) rfl (HF.ev rfl) ((HS.out.box 1 rfl).sub 0 3)) ?_; clear HF a; intro a HF
     refine wl_storeBox rfl HF rfl rfl (HF.ev rfl) (HF.ev rfl) HS.out 4 rfl (cells_lit [.slice qa3 p.d.fCells.length qc3, .slice ao6 (p.d.fWaits.length + ([(⟨n, t⟩ : WaitD)]).length) cp7, .bool p.d.fGone] rfl rfl) (by kernel_rfl) ?_; clear HS; intro w15 HS; replace HS := Bx.mk HS
     have HS : Bx (St w0 ([rowA WaitD.cells 2 137 (.slice (some ⟨b5, 0, none⟩) 1 1) ([(⟨n, t⟩ : WaitD)]), boxA b4 3 94 (.agg #[.slice qa3 p.d.fCells.length qc3, .slice ao6 (p.d.fWaits.length + ([(⟨n, t⟩ : WaitD)]).length) cp7, .bool p.d.fGone]), rowA encS 1 9 (.slice qa3 p.d.fCells.length qc3) p.d.fCells, rowA WaitD.cells 2 137 (.slice ao6 (p.d.fWaits.length + ([(⟨n, t⟩ : WaitD)]).length) cp7) (p.d.fWaits ++ ([(⟨n, t⟩ : WaitD)])), boxA b2 3 94 (.agg #[.slice qa3 p.d.fCells.length qc3, .slice ao6 (p.d.fWaits.length + ([(⟨n, t⟩ : WaitD)]).length) cp7, .bool p.d.fGone]), boxA b1 3 94 (.agg #[.slice p.a0 p.d.fCells.length p.c0, .slice p.a1 p.d.fWaits.length p.c1, .bool p.d.fGone])]) _) := HS
     refine za HF ?_; clear HF a; intro a HF
     refine wl_ne ?_
     refine wp_ret ?_
     refine bp_ret2 HF Tryz.results78 (HF.resBox rfl (HS.out.box 4 rfl) (by kernel_rfl)) (HF.res rfl) ?_
     replace HS : Bx (St w0 ([rowA encS 1 9 (.slice qa3 p.d.fCells.length qc3) p.d.fCells, rowA WaitD.cells 2 137 (.slice ao6 (p.d.fWaits.length + ([(⟨n, t⟩ : WaitD)]).length) cp7) (p.d.fWaits ++ ([(⟨n, t⟩ : WaitD)])), rowA WaitD.cells 2 137 (.slice (some ⟨b5, 0, none⟩) 1 1) ([(⟨n, t⟩ : WaitD)]), boxA b4 3 94 (.agg #[.slice qa3 p.d.fCells.length qc3, .slice ao6 (p.d.fWaits.length + ([(⟨n, t⟩ : WaitD)]).length) cp7, .bool p.d.fGone]), boxA b2 3 94 (.agg #[.slice qa3 p.d.fCells.length qc3, .slice ao6 (p.d.fWaits.length + ([(⟨n, t⟩ : WaitD)]).length) cp7, .bool p.d.fGone]), boxA b1 3 94 (.agg #[.slice p.a0 p.d.fCells.length p.c0, .slice p.a1 p.d.fWaits.length p.c1, .bool p.d.fGone])]) _) := ⟨((HS.out).pick 3 rfl).pick 3 rfl⟩
     have hz : p.d.fWaits.length + [(⟨n, t⟩ : WaitD)].length = (p.d.fWaits ++ [(⟨n, t⟩ : WaitD)]).length := (List.length_append ..).symm
     have HT := ((((HS.out.erase 5).erase 4).erase 3).erase 2)
     rw [hz] at HT ⊢
     exact .inr ⟨by unfold DiskD.can; rw [q1, q2, q3, q4]; rfl, ⟨qa3, qc3, ao6, cp7, p.d.putD n t⟩, rfl, rfl, (St.join (r := [_, _]) (s := [])).1 HT⟩

theorem l4Copy_any (a0 : Option Addr) (c0 : Nat) (ps : List HD) (w0 : World) (hl : ps.length ≤ 1048576) (hf : ∀ k, (ps.getD k default).d.fits) (hR : Rd HD.cells 3 w0 a0 ps.length ps) (hP : ∀ k, k < ps.length → (ps.getD k default).reads w0) : Calls Tryz.prog 31 #[.agg #[.slice a0 ps.length c0]] w0 fun e w' => ∃ ao cp qs, e = .returned (.agg #[.slice ao qs.length cp]) ∧ dsOf qs = dsOf ps ∧ St w0 [rowA HD.cells 3 94 (.slice ao qs.length cp) qs, sepA (qs.map HD.asr)] w' := by
 have HR := Bx.mk hR; have HP := Bx.mk hP; clear hR hP
 have HS := Bx.mk (St.start w0)
 refine wc_enter Tryz.func31 rfl Tryz.ntmps31 [(0, .agg #[.slice a0 ps.length c0])] ⟨rfl, trivial⟩ rfl ?_; intro a HF
 refine wp_sr ?_
 refine wl_box rfl HF rfl (HF.ev rfl) (Z := [.slice a0 ps.length c0]) rfl rfl rfl rfl HS.out ?_; clear HF HS a; intro a w1 b1 HF HS; replace HS := Bx.mk HS
 refine wl_alloc rfl HF rfl rfl rfl (Z := [.slice none 0 0]) (by kernel_rfl) rfl HS.out ?_; clear HF HS a; intro a w2 b2 HF HS; replace HS := Bx.mk HS
 refine wl_ne ?_
 refine wp_sr ?_
 refine wl_empty (e := 94) (size := 3) rfl HF rfl rfl rfl (by kernel_rfl) HS.out ?_; clear HF HS a; intro a w3 b3 HF HS; replace HS := Bx.mk HS
 refine zy HF (yl_build HF rfl (ps := [(0, .slice (some ⟨b3, 0, none⟩) 0 0)]) rfl (cs := #[.slice (some ⟨b3, 0, none⟩) 0 0]) (by kernel_rfl)) ?_; clear HF a; intro a HF
 refine wl_alloc rfl HF rfl rfl rfl (Z := [.slice none 0 0]) (by kernel_rfl) rfl HS.out ?_; clear HF HS a; intro a w4 b4 HF HS; replace HS := Bx.mk HS
 refine wl_storeBox rfl HF rfl rfl (HF.ev rfl) (HF.ev rfl) HS.out 0 rfl (cells_lit [.slice (some ⟨b3, 0, none⟩) 0 0] rfl rfl) (by kernel_rfl) ?_; clear HS; intro w5 HS; replace HS := Bx.mk HS
 have HS : Bx (St w0 ([boxA b4 1 34 (.agg #[.slice (some ⟨b3, 0, none⟩) 0 0]), boxA b2 1 34 (.agg #[.slice none 0 0]), boxA b1 1 34 (.agg #[.slice a0 ps.length c0])]) _) := HS
 refine wl_ne ?_
 refine wp_seq ?_
 refine wp_sr ?_
 refine za HF ?_; clear HF a; intro a HF
 refine wl_ne ?_
 refine wp_block ?_
 replace HS := Bx.mk ((HS.out.hdNil).nilRow HD.cells 3 94 (some ⟨b3, 0, none⟩))
 refine wc_loop (ι := Nat) (fun k a w => ∃ (ao : Option Addr) (cp : Nat) (qs : List HD), (k ≤ ps.length ∧ qs.length = k ∧ dsOf qs = dsOf (ps.take k)) ∧ Fr 26 a [(1, .pointer (some ⟨b1, 0, none⟩)), (2, .pointer (some ⟨b2, 0, none⟩)), (3, .pointer (some ⟨b4, 0, none⟩)), (4, .int .i64 (k : Int))] ∧ St w0 ([rowA HD.cells 3 94 (.slice ao qs.length cp) qs, sepA (qs.map HD.asr), boxA b4 1 34 (.agg #[.slice ao qs.length cp]), boxA b2 1 34 (.agg #[.slice none 0 0]), boxA b1 1 34 (.agg #[.slice a0 ps.length c0])]) w) (fun k => ps.length - k) 0 ⟨_, _, [], ⟨Nat.zero_le _, rfl, rfl⟩, HF.less _ ⟨rfl, rfl, rfl, rfl, trivial⟩, HS.out⟩ ?_
 clear HF HS; clear a
 rintro k a w6 ⟨ao, cp, qs, ⟨hk, hql, hq⟩, HF, HS⟩
 replace HS := Bx.mk HS
 refine wp_seq ?_
 refine wp_sr ?_
 refine zm HF ?_; clear HF a; intro a HF
 refine zy HF (yfa 0 rfl (HF.ev rfl)) ?_; clear HF a; intro a HF
 refine zy HF (ylo (v := .slice a0 ps.length c0) rfl (HF.ev rfl) (((HS.out.box 4 rfl).cell 0).trans rfl)) ?_; clear HF a; intro a HF
 refine zy HF (yl_lenL (e := 94) (size := 3) rfl (HF.ev rfl) (by kernel_rfl)) ?_; clear HF a; intro a HF
 refine zy HF (yl_lssI rfl (HF.ev rfl) (HF.ev rfl)) ?_; clear HF a; intro a HF
 refine wl_ne ?_
 refine HF.cases 11 rfl (fun cc1 _ => ?_) fun cc1 _ => ?_
 ·clear HF;rename_i HF
  have dcc1 := of_decide_eq_true cc1
  refine wc_true HF rfl ?_
  refine wp_skip ?_
  refine ex_then ?_
  refine wp_seq ?_
  refine wp_block ?_
  obtain ⟨g0, o0, r0⟩ := HR.out.opn; have R0 := Bx.mk r0; clear r0
  refine wr_marked (W := w0) (s := [sepA (qs.map HD.asr), boxA b4 1 34 (.agg #[.slice ao qs.length cp]), boxA b2 1 34 (.agg #[.slice none 0 0]), boxA b1 1 34 (.agg #[.slice a0 ps.length c0])]) 11 (by kernel_rfl) ?_
  have HS2 := Bx.mk HS.out.drew; replace HS := Bx.mk (show St w0 ([sepA (qs.map HD.asr), boxA b4 1 34 (.agg #[.slice ao qs.length cp]), boxA b2 1 34 (.agg #[.slice none 0 0]), boxA b1 1 34 (.agg #[.slice a0 ps.length c0])]) _ from (HS.out.drew.erase 0)); generalize World.drew _ = w7 at HS HS2 ⊢
  refine wm_t 0 rfl (by kernel_rfl) (by kernel_rfl) (by kernel_rfl) (fun _ _ _ h => h) (by decide) rfl HF rfl rfl (fun _ _ => (yfa 0 rfl (HF.ev rfl))) (fun _ => HS.out) ?_; clear HF a; intro a HF
  refine wm_y 1 rfl (by kernel_rfl) (by kernel_rfl) (by kernel_rfl) (fun _ _ _ h => h) (by decide) (by kernel_rfl) (by kernel_rfl) rfl HF rfl rfl (fun _ HS => (ylo (v := .slice ao qs.length cp) rfl (HF.ev rfl) (((HS.box 1 rfl).cell 0).trans rfl))) HS.out ?_; clear HF a; intro a HF
  refine wm_t 2 rfl (by kernel_rfl) (by kernel_rfl) (by kernel_rfl) (fun _ _ _ h => h) (by decide) rfl HF rfl rfl (fun _ _ => (yfa 0 rfl (HF.ev rfl))) (fun _ => HS.out) ?_; clear HF a; intro a HF
  refine wm_y 3 rfl (by kernel_rfl) (by kernel_rfl) (by kernel_rfl) (fun _ _ _ h => h) (by decide) (by kernel_rfl) (by kernel_rfl) rfl HF rfl rfl (fun _ HS => (ylo (v := .slice a0 ps.length c0) rfl (HF.ev rfl) (((HS.box 3 rfl).cell 0).trans rfl))) HS.out ?_; clear HF a; intro a HF
  refine wm_t 4 rfl (by kernel_rfl) (by kernel_rfl) (by kernel_rfl) (fun _ _ _ h => h) (by decide) rfl HF rfl rfl (fun _ _ => (yl_move rfl (HF.ev rfl))) (fun _ => HS.out) ?_; clear HF a; intro a HF
  refine wm_y 5 rfl (by kernel_rfl) (by kernel_rfl) (by kernel_rfl) (fun _ _ _ h => h) (by decide) (by kernel_rfl) (by kernel_rfl) rfl HF rfl rfl (fun _ HS => (yl_indexAddrR (e := 94) (i := k) (size := 3) rfl (HF.ev rfl) (HF.ev rfl) (by kernel_rfl) rfl (by omega) (R0.out.ao k (by omega)))) HS.out ?_; clear HF a; intro a HF
  refine wm_y 6 rfl (by kernel_rfl) (by kernel_rfl) (by kernel_rfl) (fun _ _ _ h => h) (by decide) (by kernel_rfl) (by kernel_rfl) rfl HF rfl rfl (fun _ HS => (ylr (cs := [.slice ((ps.getD k default).a0) ((ps.getD k default).d.fCells.length) ((ps.getD k default).c0), .slice ((ps.getD k default).a1) ((ps.getD k default).d.fWaits.length) ((ps.getD k default).c1), .bool ((ps.getD k default).d.fGone)]) rfl (HF.ev rfl) (R0.out.elem HS (get_getD (xs := ps) (j := k) (d := default) (by omega))))) HS.out ?_; clear HF a; intro a HF
  refine wm_one 7 (by kernel_rfl) ?_
  refine wo_call rfl rfl HF rfl (enter_of Tryz.func64 (by kernel_rfl) rfl) (args := #[.agg #[.slice ((ps.getD k default).a0) ((ps.getD k default).d.fCells.length) ((ps.getD k default).c0), .slice ((ps.getD k default).a1) ((ps.getD k default).d.fWaits.length) ((ps.getD k default).c1), .bool ((ps.getD k default).d.fGone)]]) rfl (l3CopyH_any (ps.getD k default) _ ((HP.out k (by omega)).below HS2.out.bel) (hf k)) rfl rfl ?_
  rintro _ w8 ⟨⟨qa5, qc5, qb5, qe5, qd⟩, hqd, rfl, hs⟩; obtain rfl : qd = (ps.getD k default).d := hqd; refine ⟨_, rfl, ?_⟩
  replace HS := Bx.mk (HS.out.later hs.bel)
  replace HS2 := Bx.mk ((HS2.out.add hs));clear hs HF a;intro a HF
  replace HS2 : Bx (St w0 ([HD.asr ⟨qa5, qc5, qb5, qe5, (ps.getD k default).d⟩, rowA HD.cells 3 94 (.slice ao qs.length cp) qs, sepA (qs.map HD.asr), boxA b4 1 34 (.agg #[.slice ao qs.length cp]), boxA b2 1 34 (.agg #[.slice none 0 0]), boxA b1 1 34 (.agg #[.slice a0 ps.length c0])]) _) := ⟨HS2.out⟩
  refine ⟨fun _ => HS.out, ?_⟩
  refine wm_one 8 (by kernel_rfl) ?_
  refine wo_buildS (enc := HD.cells) (e := 94) (size := 3) rfl rfl HF rfl rfl rfl (ps := [(0, .agg #[.slice qa5 ((ps.getD k default).d.fCells.length) qc5, .slice qb5 ((ps.getD k default).d.fWaits.length) qe5, .bool ((ps.getD k default).d.fGone)])]) rfl (cells := [.slice qa5 ((ps.getD k default).d.fCells.length) qc5, .slice qb5 ((ps.getD k default).d.fWaits.length) qe5, .bool ((ps.getD k default).d.fGone)]) (by kernel_rfl) [(⟨qa5, qc5, qb5, qe5, (ps.getD k default).d⟩ : HD)] rfl rfl (by unfold maxLen; omega) rfl HS2.out HS.out ?_; clear HF HS HS2 a; intro b6 a w9 HF HS2 HS; replace HS := Bx.mk HS; replace HS2 := Bx.mk HS2; refine ⟨fun _ => HS.out, ?_⟩
  refine wm_one 9 (by kernel_rfl) ?_
  refine wo_appL rfl rfl HF rfl rfl rfl (HF.ev rfl) (HF.ev rfl) elemD HD.cells_len HS2.out 2 (xs := qs) rfl (ys := [(⟨qa5, qc5, qb5, qe5, (ps.getD k default).d⟩ : HD)]) (St.rdN HS2.out HD.cells_len 0 rfl) (cells_one_D _) (by unfold maxLen; simp only [List.length_cons, List.length_nil]; omega) (by simp only [List.length_cons, List.length_nil]; omega) ?_; clear HF HS HS2 a; intro ao7 cp8 w10 a HF HS2; replace HS2 := Bx.mk HS2
  replace HS2 : Bx (St w0 ([rowA HD.cells 3 94 (.slice (some ⟨b6, 0, none⟩) 1 1) ([(⟨qa5, qc5, qb5, qe5, (ps.getD k default).d⟩ : HD)]), HD.asr ⟨qa5, qc5, qb5, qe5, (ps.getD k default).d⟩, rowA HD.cells 3 94 (.slice ao7 (qs.length + ([(⟨qa5, qc5, qb5, qe5, (ps.getD k default).d⟩ : HD)]).length) cp8) (qs ++ ([(⟨qa5, qc5, qb5, qe5, (ps.getD k default).d⟩ : HD)])), sepA (qs.map HD.asr), boxA b4 1 34 (.agg #[.slice ao qs.length cp]), boxA b2 1 34 (.agg #[.slice none 0 0]), boxA b1 1 34 (.agg #[.slice a0 ps.length c0])]) _) := ⟨HS2.out⟩
  have HS : Bx (St w0 ([sepA (qs.map HD.asr), boxA b4 1 34 (.agg #[.slice ao qs.length cp]), boxA b2 1 34 (.agg #[.slice none 0 0]), boxA b1 1 34 (.agg #[.slice a0 ps.length c0])]) _) := ⟨(((HS2.out.erase 2).erase 1).erase 0)⟩
  refine ⟨fun _ => HS.out, ?_⟩
  refine wm_t 10 rfl (by kernel_rfl) (by kernel_rfl) (by kernel_rfl) (fun _ _ _ h => h) (by decide) rfl HF rfl rfl (fun _ _ => (yfa 0 rfl (HF.ev rfl))) (fun _ => HS.out) ?_; clear HF a; intro a HF
  refine wm_one 11 (by kernel_rfl) ?_
  refine wo_storeF rfl rfl rfl rfl (HF.ev rfl) (HF.ev rfl) (by kernel_rfl) HS2.out 4 rfl rfl rfl ?_
  clear HS2; intro w11 HS2; replace HS2 : Bx (St w0 ([rowA HD.cells 3 94 (.slice (some ⟨b6, 0, none⟩) 1 1) ([(⟨qa5, qc5, qb5, qe5, (ps.getD k default).d⟩ : HD)]), HD.asr ⟨qa5, qc5, qb5, qe5, (ps.getD k default).d⟩, rowA HD.cells 3 94 (.slice ao7 (qs.length + ([(⟨qa5, qc5, qb5, qe5, (ps.getD k default).d⟩ : HD)]).length) cp8) (qs ++ ([(⟨qa5, qc5, qb5, qe5, (ps.getD k default).d⟩ : HD)])), sepA (qs.map HD.asr), boxA b4 1 34 (.agg #[.slice ao7 (qs.length + ([(⟨qa5, qc5, qb5, qe5, (ps.getD k default).d⟩ : HD)]).length) cp8]), boxA b2 1 34 (.agg #[.slice none 0 0]), boxA b1 1 34 (.agg #[.slice a0 ps.length c0])]) _) := ⟨HS2⟩; refine ⟨(fun h => absurd (show true = false from h) (by decide)), ?_⟩
  refine wm_done (by kernel_rfl) ?_
  clear HS; have HS := HS2; clear HS2
  refine ex_block ?_
  refine ex_then ?_
  refine wp_region_lit ?_
  refine zm HF ?_; clear HF a; intro a HF
  refine zy HF (yl_addI rfl (HF.ev rfl) (HF.ev rfl) (i64w (by omega))) ?_; clear HF a; intro a HF
  refine za HF ?_; clear HF a; intro a HF
  refine wl_ne ?_
  have hz : qs.length + [(⟨qa5, qc5, qb5, qe5, (ps.getD k default).d⟩ : HD)].length = (qs ++ [(⟨qa5, qc5, qb5, qe5, (ps.getD k default).d⟩ : HD)]).length := (List.length_append ..).symm
  rw [hz] at HS
  replace HS := Bx.mk (St.hdSnoc (((HS.out).pick 3 rfl).pick 2 rfl))
  replace HS := Bx.mk ((((((((HS.out).pick 5 rfl).pick 5 rfl).pick 5 rfl).pick 3 rfl).pick 5 rfl).erase 5))
  have hnext : dsOf (qs ++ [(⟨qa5, qc5, qb5, qe5, (ps.getD k default).d⟩ : HD)]) = dsOf (ps.take (k + 1)) := by rw [dsOf_append, hq, dsOf_take_succ ps k (by omega)]; rfl
  exact ⟨k + 1, ⟨_, _, qs ++ [(⟨qa5, qc5, qb5, qe5, (ps.getD k default).d⟩ : HD)], ⟨by omega, by rw [List.length_append]; show qs.length + 1 = k + 1; omega, hnext⟩, HF.less _ ⟨rfl, rfl, rfl, rfl, trivial⟩, HS.out⟩, (by omega)⟩
 ·clear HF;rename_i HF
  have dcc1 := of_decide_eq_false cc1
  refine wc_false HF rfl ?_
  refine wp_exit ?_
  refine ex_then_exit ?_
  refine ex_then_exit ?_
  refine ex_block_hit ?_
  refine ex_then ?_
  refine wp_sr ?_
  refine zy HF (ylr (cs := [.slice ao qs.length cp]) rfl (HF.ev rfl) ((HS.out.box 2 rfl).sub 0 1)) ?_; clear HF a; intro a HF
  refine wl_storeBox rfl HF rfl rfl (HF.ev rfl) (HF.ev rfl) HS.out 3 rfl (cells_lit [.slice ao qs.length cp] rfl rfl) (by kernel_rfl) ?_; clear HS; intro w12 HS; replace HS := Bx.mk HS
  have HS : Bx (St w0 ([rowA HD.cells 3 94 (.slice ao qs.length cp) qs, sepA (qs.map HD.asr), boxA b4 1 34 (.agg #[.slice ao qs.length cp]), boxA b2 1 34 (.agg #[.slice ao qs.length cp]), boxA b1 1 34 (.agg #[.slice a0 ps.length c0])]) _) := HS
  refine wl_ne ?_
  refine wp_ret ?_
  refine bp_ret1 HF Tryz.results31 (HF.resBox rfl (HS.out.box 3 rfl) (by kernel_rfl)) ?_
  replace HS : Bx (St w0 ([rowA HD.cells 3 94 (.slice ao qs.length cp) qs, sepA (qs.map HD.asr), boxA b4 1 34 (.agg #[.slice ao qs.length cp]), boxA b2 1 34 (.agg #[.slice ao qs.length cp]), boxA b1 1 34 (.agg #[.slice a0 ps.length c0])]) _) := ⟨((HS.out).pick 1 rfl).pick 1 rfl⟩
  obtain rfl : k = ps.length := by omega
  rw [List.take_length] at hq
  exact ⟨_, _, qs, rfl, hq, (((HS.out.erase 4).erase 3).erase 2)⟩

end Go.Proofs.YtoaopmkbfifhaaaGreatDoor

/- Writes to a set of disks, by the reference. -/
namespace Go.Proofs.YtoaopmkbfifhaaaGreatDoor
set_option linter.unusedVariables false
set_option linter.unusedSimpArgs false
set_option maxHeartbeats 1000000
set_option maxRecDepth 100000
open Go.RowKit

def encL (b : Bool) : List Value := [.bool b]
theorem encL_len (b : Bool) : (encL b).length = 1 := rfl
/-- What a round makes of each disk; none if one fails. -/
def eachTo (f : Nat → DiskD → Option DiskD) (ds : List DiskD) : Nat → Option (List DiskD)
  | 0 => some []
  | k + 1 => match eachTo f ds k with
    | none => none
    | some xs => match f k (ds.getD k default) with
      | none => none
      | some x => some (xs ++ [x])
theorem eachTo_next {f : Nat → DiskD → Option DiskD} {ds : List DiskD} {k : Nat} {xs : List DiskD} {x : DiskD} (h : eachTo f ds k = some xs) (hx : f k (ds.getD k default) = some x) : eachTo f ds (k + 1) = some (xs ++ [x]) := by
  unfold eachTo; rw [h]; simp only; rw [hx]
theorem eachTo_fail {f : Nat → DiskD → Option DiskD} {ds : List DiskD} {k n : Nat} (hx : f k (ds.getD k default) = none) (hk : k < n) : eachTo f ds n = none := by
  induction n with
  | zero => omega
  | succ n ih =>
    unfold eachTo
    by_cases h : k < n
    · rw [ih h]
    · obtain rfl : k = n := by omega
      cases eachTo f ds k with
      | none => rfl
      | some xs => simp only; rw [hx]
theorem eachTo_len {f : Nat → DiskD → Option DiskD} {ds : List DiskD} : ∀ {n : Nat} {xs : List DiskD}, eachTo f ds n = some xs → xs.length = n := by
  intro n
  induction n with
  | zero => intro xs h; obtain rfl : [] = xs := by simpa [eachTo] using h
            rfl
  | succ n ih =>
    intro xs h
    unfold eachTo at h
    cases h1 : eachTo f ds n with
    | none => rw [h1] at h; cases h
    | some ys =>
      rw [h1] at h
      simp only at h
      cases h2 : f n (ds.getD n default) with
      | none => rw [h2] at h; cases h
      | some y =>
        rw [h2] at h
        obtain rfl : ys ++ [y] = xs := by simpa using h
        rw [List.length_append, ih h1]; rfl
theorem eachTo_congr {f g : Nat → DiskD → Option DiskD} {ds : List DiskD} {n : Nat} (h : ∀ k, k < n → f k (ds.getD k default) = g k (ds.getD k default)) : eachTo f ds n = eachTo g ds n := by
  induction n with
  | zero => rfl
  | succ n ih =>
    unfold eachTo
    rw [ih (fun k hk => h k (by omega)), h n (by omega)]
def stepPut (row : Int) (col : Nat → ByteArray) (wanted : Nat → Bool) (i : Nat) (d : DiskD) : Option DiskD :=
  bif d.fGone || !wanted i then some d else bif d.can row (col i) then some (d.putD row (col i)) else none
theorem stepPut_skip {row : Int} {col : Nat → ByteArray} {wanted : Nat → Bool} {i : Nat} {d : DiskD} (h : (d.fGone || !wanted i) = true) : stepPut row col wanted i d = some d := by unfold stepPut; rw [h]; rfl
theorem stepPut_put {row : Int} {col : Nat → ByteArray} {wanted : Nat → Bool} {i : Nat} {d : DiskD} (h1 : d.fGone = false) (h2 : wanted i = true) (h3 : d.can row (col i) = true) : stepPut row col wanted i d = some (d.putD row (col i)) := by unfold stepPut; rw [h1, h2, h3]; rfl
theorem stepPut_fail {row : Int} {col : Nat → ByteArray} {wanted : Nat → Bool} {i : Nat} {d : DiskD} (h1 : d.fGone = false) (h2 : wanted i = true) (h3 : d.can row (col i) = false) : stepPut row col wanted i d = none := by unfold stepPut; rw [h1, h2, h3]; rfl
theorem l3WriteH_any (w0 w : World) (p : HD) (n : Int) (t : ByteArray) (F : List Asr) (hw : p.d.fWaits.length ≤ 1000) (ht : t.size ≤ 9223372036854775806) (hS : St w0 (p.asr :: F) w) : Calls Tryz.prog 111 #[.agg #[.slice p.a0 p.d.fCells.length p.c0, .slice p.a1 p.d.fWaits.length p.c1, .bool p.d.fGone], .int .i64 n, .string t] w fun e w' => ∃ q : HD, q.d = (if p.d.can n t then p.d.putD n t else p.d) ∧ e = .returned (.tuple #[.agg #[.slice q.a0 q.d.fCells.length q.c0, .slice q.a1 q.d.fWaits.length q.c1, .bool q.d.fGone], .bool (p.d.can n t)]) ∧ St w0 (q.asr :: F) w' := by
  refine (l3Write_any w0 w p.a0 p.c0 p.a1 p.c1 p.d n t F hw ht (St.join.2 hS)).mono ?_
  rintro e w' (⟨hc, rfl, hs⟩ | ⟨hc, a1, c1, rfl, hs⟩)
  · exact ⟨p, by rw [hc]; rfl, by rw [hc], (St.join (r := [_, _]) (s := F)).1 hs⟩
  · exact ⟨⟨p.a0, p.c0, a1, c1, p.d.putD n t⟩, by rw [hc]; rfl, by rw [hc]; rfl, (St.join (r := [_, _]) (s := F)).1 hs⟩
theorem list_split {α : Type} [Inhabited α] {qs ps : List α} {k : Nat} (hl : qs.length = ps.length) (hk : k < ps.length) (hd : qs.drop k = ps.drop k) : qs.getD k default = ps.getD k default := by
  rw [getD_get (by omega), getD_get hk]
  have h1 := List.drop_eq_getElem_cons (l := qs) (i := k) (by omega)
  have h2 := List.drop_eq_getElem_cons (l := ps) (i := k) hk
  rw [h1, h2] at hd
  exact (List.cons.inj hd).1
theorem take_set_succ {α : Type} (qs : List α) (k : Nat) (q : α) (hk : k < qs.length) : (qs.set k q).take (k + 1) = qs.take k ++ [q] := by
  rw [List.take_succ_eq_append_getElem (by rw [List.length_set]; exact hk), List.take_set_of_le (Nat.le_refl _), List.getElem_set_self]
theorem drop_set_succ {α : Type} (qs : List α) (k : Nat) (q : α) : (qs.set k q).drop (k + 1) = qs.drop (k + 1) := by
  rw [List.drop_set_of_lt (by omega)]

theorem l4Put_any (w0 w : World) (g c0 gc cc gb cb : Nat) (ps : List HD) (row : Int) (cols : List ByteArray) (wanted : List Bool) (F : List Asr) (hl : ps.length ≤ 1048576) (hc : ps.length ≤ cols.length) (hb : ps.length ≤ wanted.length) (hpw : ∀ k, (ps.getD k default).d.fWaits.length ≤ 1000) (hct : ∀ k, (cols.getD k ByteArray.empty).size ≤ 9223372036854775806) (hS : St w0 (rowA HD.cells 3 94 (.slice (some ⟨g, 0, none⟩) ps.length c0) ps :: sepA (ps.map HD.asr) :: rowA encS 1 9 (.slice (some ⟨gc, 0, none⟩) cols.length cc) cols :: rowA encL 1 4 (.slice (some ⟨gb, 0, none⟩) wanted.length cb) wanted :: F) w) : Calls Tryz.prog 63 #[.agg #[.slice (some ⟨g, 0, none⟩) ps.length c0], .int .i64 row, .slice (some ⟨gc, 0, none⟩) cols.length cc, .slice (some ⟨gb, 0, none⟩) wanted.length cb] w fun e w' => (eachTo (stepPut row (fun i => cols.getD i ByteArray.empty) (fun i => wanted.getD i false)) (dsOf ps) ps.length = none ∧ e = .returned (.tuple #[.agg #[.slice none 0 0], .bool false]) ∧ St w0 (rowA encS 1 9 (.slice (some ⟨gc, 0, none⟩) cols.length cc) cols :: rowA encL 1 4 (.slice (some ⟨gb, 0, none⟩) wanted.length cb) wanted :: F) w') ∨ (∃ qs : List HD, eachTo (stepPut row (fun i => cols.getD i ByteArray.empty) (fun i => wanted.getD i false)) (dsOf ps) ps.length = some (dsOf qs) ∧ e = .returned (.tuple #[.agg #[.slice (some ⟨g, 0, none⟩) ps.length c0], .bool true]) ∧ St w0 (rowA HD.cells 3 94 (.slice (some ⟨g, 0, none⟩) ps.length c0) qs :: sepA (qs.map HD.asr) :: rowA encS 1 9 (.slice (some ⟨gc, 0, none⟩) cols.length cc) cols :: rowA encL 1 4 (.slice (some ⟨gb, 0, none⟩) wanted.length cb) wanted :: F) w') := by
 have HS := Bx.mk hS; clear hS
 refine wc_enter Tryz.func63 rfl Tryz.ntmps63 [(0, .agg #[.slice (some ⟨g, 0, none⟩) ps.length c0]), (1, .int .i64 row), (2, .slice (some ⟨gc, 0, none⟩) cols.length cc), (3, .slice (some ⟨gb, 0, none⟩) wanted.length cb)] ⟨rfl, rfl, rfl, rfl, trivial⟩ rfl ?_; intro a HF
 refine wp_sr ?_
 refine wl_box rfl HF rfl (HF.ev rfl) (Z := [.slice (some ⟨g, 0, none⟩) ps.length c0]) rfl rfl rfl rfl HS.out ?_; clear HF HS a; intro a w1 b1 HF HS; replace HS := Bx.mk HS
 refine wl_alloc rfl HF rfl rfl rfl (Z := [.slice none 0 0]) (by kernel_rfl) rfl HS.out ?_; clear HF HS a; intro a w2 b2 HF HS; replace HS := Bx.mk HS
 refine za HF ?_; clear HF a; intro a HF
 refine wl_ne ?_
 refine wp_seq ?_
 refine wp_sr ?_
 refine za HF ?_; clear HF a; intro a HF
 refine wl_ne ?_
 refine wp_block ?_
 replace HS : Bx (St w0 (rowA HD.cells 3 94 (.slice (some ⟨g, 0, none⟩) ps.length c0) ps :: sepA (ps.map HD.asr) :: rowA encS 1 9 (.slice (some ⟨gc, 0, none⟩) cols.length cc) cols :: rowA encL 1 4 (.slice (some ⟨gb, 0, none⟩) wanted.length cb) wanted :: boxA b2 1 34 (.agg #[.slice none 0 0]) :: boxA b1 1 34 (.agg #[.slice (some ⟨g, 0, none⟩) ps.length c0]) :: F) _) := ⟨((((HS.out).pick 5 rfl).pick 5 rfl).pick 5 rfl).pick 5 rfl⟩
 refine wc_loop (ι := Nat) (fun k a w => ∃ (qs : List HD), (k ≤ ps.length ∧ qs.length = ps.length ∧ eachTo (stepPut row (fun i => cols.getD i ByteArray.empty) (fun i => wanted.getD i false)) (dsOf ps) k = some (dsOf (qs.take k)) ∧ qs.drop k = ps.drop k) ∧ Fr 56 a [(1, .int .i64 row), (2, .slice (some ⟨gc, 0, none⟩) cols.length cc), (3, .slice (some ⟨gb, 0, none⟩) wanted.length cb), (4, .pointer (some ⟨b1, 0, none⟩)), (8, .pointer (some ⟨b2, 0, none⟩)), (9, .bool false), (10, .int .i64 (k : Int))] ∧ St w0 (rowA HD.cells 3 94 (.slice (some ⟨g, 0, none⟩) ps.length c0) qs :: sepA (qs.map HD.asr) :: rowA encS 1 9 (.slice (some ⟨gc, 0, none⟩) cols.length cc) cols :: rowA encL 1 4 (.slice (some ⟨gb, 0, none⟩) wanted.length cb) wanted :: boxA b2 1 34 (.agg #[.slice none 0 0]) :: boxA b1 1 34 (.agg #[.slice (some ⟨g, 0, none⟩) ps.length c0]) :: F) w) (fun k => ps.length - k) 0 ⟨ps, ⟨Nat.zero_le _, rfl, rfl, rfl⟩, HF.less _ ⟨rfl, rfl, rfl, rfl, rfl, rfl, rfl, trivial⟩, HS.out⟩ ?_
 clear HF HS; clear a
 rintro k a w3 ⟨qs, ⟨hk, hql, hq, hqd0⟩, HF, HS⟩
 replace HS := Bx.mk HS
 refine wp_seq ?_
 refine wp_sr ?_
 refine zm HF ?_; clear HF a; intro a HF
 refine zy HF (yfa 0 rfl (HF.ev rfl)) ?_; clear HF a; intro a HF
 refine zy HF (ylo (v := .slice (some ⟨g, 0, none⟩) ps.length c0) rfl (HF.ev rfl) (((HS.out.box 5 rfl).cell 0).trans rfl)) ?_; clear HF a; intro a HF
 refine zy HF (yl_lenL (e := 94) (size := 3) rfl (HF.ev rfl) (by kernel_rfl)) ?_; clear HF a; intro a HF
 refine zy HF (yl_lssI rfl (HF.ev rfl) (HF.ev rfl)) ?_; clear HF a; intro a HF
 refine wl_ne ?_
 refine HF.cases 17 rfl (fun cc1 _ => ?_) fun cc1 _ => ?_
 ·clear HF;rename_i HF
  have dcc1 := of_decide_eq_true cc1
  refine wc_true HF rfl ?_
  refine wp_skip ?_
  refine ex_then ?_
  refine wp_seq ?_
  refine wp_block ?_
  refine wp_seq ?_
  refine wp_seq ?_
  have hgk := list_split hql (show k < ps.length by omega) hqd0
  have hqw : (qs.getD k default).d.fWaits.length ≤ 1000 := by rw [hgk]; exact hpw k
  refine wp_region_lit ?_
  refine zy HF (yfa 0 rfl (HF.ev rfl)) ?_; clear HF a; intro a HF
  refine zy HF (ylo (v := .slice (some ⟨g, 0, none⟩) ps.length c0) rfl (HF.ev rfl) (((HS.out.box 5 rfl).cell 0).trans rfl)) ?_; clear HF a; intro a HF
  refine zm HF ?_; clear HF a; intro a HF
  refine zy HF (yl_indexAddr (e := 94) (i := k) (size := 3) rfl (HF.ev rfl) (HF.ev rfl) (by kernel_rfl) rfl (by omega)) ?_; clear HF a; intro a HF
  refine zy HF (yfa 2 rfl (HF.ev rfl)) ?_; clear HF a; intro a HF
  refine zy HF (ylo (v := .bool ((qs.getD k default).d.fGone)) rfl (HF.ev rfl) (HS.out.elem HD.cells_len 0 rfl (get_getD (xs := qs) (j := k) (d := default) (by omega)) 2 _ rfl)) ?_; clear HF a; intro a HF
  refine zm HF ?_; clear HF a; intro a HF
  refine HF.cases 26 rfl (fun cc2 _ => ?_) fun cc2 _ => ?_
  ·clear HF;rename_i HF
   refine zk HF ?_; clear HF a; intro a HF
   refine zk HF ?_; clear HF a; intro a HF
   refine zk HF ?_; clear HF a; intro a HF
   refine zk HF ?_; clear HF a; intro a HF
   refine zk HF ?_; clear HF a; intro a HF
   refine zy HF (yl_pick_t rfl (HF.ev rfl) (HF.ev rfl)) ?_; clear HF a; intro a HF
   refine wl_ne ?_
   refine wc_true HF rfl ?_
   refine wp_exit ?_
   refine ex_then_exit ?_
   refine ex_block_hit ?_
   refine ex_then ?_
   refine wp_region_lit ?_
   refine zm HF ?_; clear HF a; intro a HF
   refine zy HF (yl_addI rfl (HF.ev rfl) (HF.ev rfl) (i64w (by omega))) ?_; clear HF a; intro a HF
   refine za HF ?_; clear HF a; intro a HF
   refine wl_ne ?_
   have hskip : ((ps.getD k default).d.fGone || !(wanted.getD k false)) = true := by rw [← hgk]; rw [cc2]; rfl
   have hnext : eachTo (stepPut row (fun i => cols.getD i ByteArray.empty) (fun i => wanted.getD i false)) (dsOf ps) (k + 1) = some (dsOf (qs.take (k + 1))) := by rw [dsOf_take_succ _ _ (by omega)]; refine eachTo_next hq ?_; rw [dsOf_get, stepPut_skip hskip, hgk]
   replace HS := Bx.mk ((((((((HS.out).pick 5 rfl).pick 5 rfl).pick 5 rfl).pick 5 rfl).pick 5 rfl).pick 5 rfl))
   exact ⟨k + 1, ⟨qs, ⟨by omega, hql, hnext, by rw [← List.drop_drop, ← List.drop_drop, hqd0]⟩, HF.less _ ⟨rfl, rfl, rfl, rfl, rfl, rfl, rfl, trivial⟩, HS.out⟩, (by omega)⟩
  ·clear HF;rename_i HF
   refine zg HF (yl_move rfl (HF.ev rfl)) ?_; clear HF a; intro a HF
   refine zg HF (yl_move rfl (HF.ev rfl)) ?_; clear HF a; intro a HF
   refine zg HF (yl_indexAddr (e := 4) (i := k) (size := 1) rfl (HF.ev rfl) (HF.ev rfl) (by kernel_rfl) rfl (by omega)) ?_; clear HF a; intro a HF
   refine zg HF (ylo (v := .bool (wanted.getD k false)) rfl (HF.ev rfl) (HS.out.elem1 encL_len 3 rfl (get_getD (xs := wanted) (j := k) (d := false) (by omega)) rfl)) ?_; clear HF a; intro a HF
   refine zg HF (yl_not rfl (HF.ev rfl)) ?_; clear HF a; intro a HF
   refine zy HF (yl_pick_f rfl (HF.ev rfl) (HF.ev rfl)) ?_; clear HF a; intro a HF
   refine wl_ne ?_
   refine HF.cases 32 rfl (fun cc3 _ => ?_) fun cc3 _ => ?_
   ·clear HF;rename_i HF
    refine wc_true HF rfl ?_
    refine wp_exit ?_
    refine ex_then_exit ?_
    refine ex_block_hit ?_
    refine ex_then ?_
    refine wp_region_lit ?_
    refine zm HF ?_; clear HF a; intro a HF
    refine zy HF (yl_addI rfl (HF.ev rfl) (HF.ev rfl) (i64w (by omega))) ?_; clear HF a; intro a HF
    refine za HF ?_; clear HF a; intro a HF
    refine wl_ne ?_
    have hskip : ((ps.getD k default).d.fGone || !(wanted.getD k false)) = true := by rw [← hgk]; rw [cc2, Bool.false_or]; exact cc3
    have hnext : eachTo (stepPut row (fun i => cols.getD i ByteArray.empty) (fun i => wanted.getD i false)) (dsOf ps) (k + 1) = some (dsOf (qs.take (k + 1))) := by rw [dsOf_take_succ _ _ (by omega)]; refine eachTo_next hq ?_; rw [dsOf_get, stepPut_skip hskip, hgk]
    replace HS := Bx.mk ((((((((HS.out).pick 5 rfl).pick 5 rfl).pick 5 rfl).pick 5 rfl).pick 5 rfl).pick 5 rfl))
    exact ⟨k + 1, ⟨qs, ⟨by omega, hql, hnext, by rw [← List.drop_drop, ← List.drop_drop, hqd0]⟩, HF.less _ ⟨rfl, rfl, rfl, rfl, rfl, rfl, rfl, trivial⟩, HS.out⟩, (by omega)⟩
   ·clear HF;rename_i HF
    refine wc_false HF rfl ?_
    refine wp_skip ?_
    refine ex_then ?_
    refine wp_seq ?_
    refine wr_heldS (s := rowA HD.cells 3 94 (.slice (some ⟨g, 0, none⟩) ps.length c0) qs :: rowA encS 1 9 (.slice (some ⟨gc, 0, none⟩) cols.length cc) cols :: rowA encL 1 4 (.slice (some ⟨gb, 0, none⟩) wanted.length cb) wanted :: boxA b2 1 34 (.agg #[.slice none 0 0]) :: boxA b1 1 34 (.agg #[.slice (some ⟨g, 0, none⟩) ps.length c0]) :: F) (by kernel_rfl) (St.drew ((HS.out.erase 1))) ?_
    have HS2 := Bx.mk HS.out.drew; replace HS := Bx.mk (show St w0 (rowA HD.cells 3 94 (.slice (some ⟨g, 0, none⟩) ps.length c0) qs :: rowA encS 1 9 (.slice (some ⟨gc, 0, none⟩) cols.length cc) cols :: rowA encL 1 4 (.slice (some ⟨gb, 0, none⟩) wanted.length cb) wanted :: boxA b2 1 34 (.agg #[.slice none 0 0]) :: boxA b1 1 34 (.agg #[.slice (some ⟨g, 0, none⟩) ps.length c0]) :: F) _ from (HS.out.drew.erase 1))
    generalize World.drew _ = w4 at HS HS2 ⊢
    refine zh 0 rfl HF (fun _ HS => (yfa 0 rfl (HF.ev rfl))) HS.out ?_; clear HF a; intro a HF
    refine zh 1 rfl HF (fun _ HS => (ylo (v := .slice (some ⟨g, 0, none⟩) ps.length c0) rfl (HF.ev rfl) (((HS.box 4 rfl).cell 0).trans rfl))) HS.out ?_; clear HF a; intro a HF
    refine zh 2 rfl HF (fun _ HS => (yl_move rfl (HF.ev rfl))) HS.out ?_; clear HF a; intro a HF
    refine zh 3 rfl HF (fun _ HS => (yl_indexAddr (e := 94) (i := k) (size := 3) rfl (HF.ev rfl) (HF.ev rfl) (by kernel_rfl) rfl (by omega))) HS.out ?_; clear HF a; intro a HF
    refine zh 4 rfl HF (fun _ HS => (ylr (cs := [.slice ((qs.getD k default).a0) ((qs.getD k default).d.fCells.length) ((qs.getD k default).c0), .slice ((qs.getD k default).a1) ((qs.getD k default).d.fWaits.length) ((qs.getD k default).c1), .bool ((qs.getD k default).d.fGone)]) rfl (HF.ev rfl) (HS.elem HD.cells_len 0 rfl (get_getD (xs := qs) (j := k) (d := default) (by omega))))) HS.out ?_; clear HF a; intro a HF
    refine zh 5 rfl HF (fun _ HS => (yl_move rfl (HF.ev rfl))) HS.out ?_; clear HF a; intro a HF
    refine zh 6 rfl HF (fun _ HS => (yl_move rfl (HF.ev rfl))) HS.out ?_; clear HF a; intro a HF
    refine zh 7 rfl HF (fun _ HS => (yl_move rfl (HF.ev rfl))) HS.out ?_; clear HF a; intro a HF
    refine zh 8 rfl HF (fun _ HS => (yl_indexAddr (e := 9) (i := k) (size := 1) rfl (HF.ev rfl) (HF.ev rfl) (by kernel_rfl) rfl (by omega))) HS.out ?_; clear HF a; intro a HF
    refine zh 9 rfl HF (fun _ HS => (ylo (v := .string (cols.getD k ByteArray.empty)) rfl (HF.ev rfl) (HS.elem1 encS_len 1 rfl (get_getD (xs := cols) (j := k) (d := ByteArray.empty) (by omega)) rfl))) HS.out ?_; clear HF a; intro a HF
    refine wh_two 10 14 (by kernel_rfl) ?_ ?_
    ·skip
     replace HS2 := Bx.mk ((HS2.out.pick 1 rfl).hdOut k (by omega))
     replace HS2 : Bx (St w0 (HD.asr (qs.getD k default) :: sepA ((qs.eraseIdx k).map HD.asr) :: rowA HD.cells 3 94 (.slice (some ⟨g, 0, none⟩) ps.length c0) qs :: rowA encS 1 9 (.slice (some ⟨gc, 0, none⟩) cols.length cc) cols :: rowA encL 1 4 (.slice (some ⟨gb, 0, none⟩) wanted.length cb) wanted :: boxA b2 1 34 (.agg #[.slice none 0 0]) :: boxA b1 1 34 (.agg #[.slice (some ⟨g, 0, none⟩) ps.length c0]) :: F) _) := ⟨HS2.out⟩
     refine wo_call rfl rfl HF rfl (enter_of Tryz.func111 (by kernel_rfl) rfl) (args := #[.agg #[.slice ((qs.getD k default).a0) ((qs.getD k default).d.fCells.length) ((qs.getD k default).c0), .slice ((qs.getD k default).a1) ((qs.getD k default).d.fWaits.length) ((qs.getD k default).c1), .bool ((qs.getD k default).d.fGone)], .int .i64 row, .string (cols.getD k ByteArray.empty)]) rfl (l3WriteH_any w0 _ (qs.getD k default) row (cols.getD k ByteArray.empty) _ hqw (hct k) HS2.out) rfl rfl ?_
     rintro _ w5 ⟨q, hqd, rfl, hs⟩; refine ⟨_, rfl, ?_⟩; replace HS2 := Bx.mk hs;clear hs HF a;intro a HF
     replace HS2 : Bx (St w0 (HD.asr q :: sepA ((qs.eraseIdx k).map HD.asr) :: rowA HD.cells 3 94 (.slice (some ⟨g, 0, none⟩) ps.length c0) qs :: rowA encS 1 9 (.slice (some ⟨gc, 0, none⟩) cols.length cc) cols :: rowA encL 1 4 (.slice (some ⟨gb, 0, none⟩) wanted.length cb) wanted :: boxA b2 1 34 (.agg #[.slice none 0 0]) :: boxA b1 1 34 (.agg #[.slice (some ⟨g, 0, none⟩) ps.length c0]) :: F) _) := ⟨HS2.out⟩
     clear HS; have HS : Bx (St w0 (rowA HD.cells 3 94 (.slice (some ⟨g, 0, none⟩) ps.length c0) qs :: rowA encS 1 9 (.slice (some ⟨gc, 0, none⟩) cols.length cc) cols :: rowA encL 1 4 (.slice (some ⟨gb, 0, none⟩) wanted.length cb) wanted :: boxA b2 1 34 (.agg #[.slice none 0 0]) :: boxA b1 1 34 (.agg #[.slice (some ⟨g, 0, none⟩) ps.length c0]) :: F) _) := ⟨((HS2.out.erase 1).erase 0)⟩; refine ⟨HS.out, ?_⟩
     refine zh 11 rfl HF (fun _ HS => (yl_move rfl (HF.ev rfl))) HS.out ?_; clear HF a; intro a HF
     refine zh 12 rfl HF (fun _ HS => (yl_extract rfl (HF.ev rfl) rfl)) HS.out ?_; clear HF a; intro a HF
     refine zh 13 rfl HF (fun _ HS => (yl_extract rfl (HF.ev rfl) rfl)) HS.out ?_; clear HF a; intro a HF
     refine wh_one 14 (by kernel_rfl) ?_
     refine wo_alloc rfl rfl HF rfl rfl rfl (Z := [.slice none 0 0, .slice none 0 0, .bool false]) (by kernel_rfl) rfl HS2.out HS.out ?_; clear HF HS HS2 a; intro a w6 b3 HF HS2 HS; replace HS := Bx.mk HS; replace HS2 := Bx.mk HS2; refine ⟨HS.out, ?_⟩
     refine wh_one 15 (by kernel_rfl) ?_
     refine wo_storeBox rfl rfl rfl rfl (HF.ev rfl) (HF.ev rfl) HS2.out 0 rfl (cells_lit [.slice q.a0 q.d.fCells.length q.c0, .slice q.a1 q.d.fWaits.length q.c1, .bool q.d.fGone] rfl rfl) (by kernel_rfl) ?_
     clear HS HS2; intro w7 HS2; replace HS2 : Bx (St w0 (boxA b3 3 94 (.agg #[.slice q.a0 q.d.fCells.length q.c0, .slice q.a1 q.d.fWaits.length q.c1, .bool q.d.fGone]) :: HD.asr q :: sepA ((qs.eraseIdx k).map HD.asr) :: rowA HD.cells 3 94 (.slice (some ⟨g, 0, none⟩) ps.length c0) qs :: rowA encS 1 9 (.slice (some ⟨gc, 0, none⟩) cols.length cc) cols :: rowA encL 1 4 (.slice (some ⟨gb, 0, none⟩) wanted.length cb) wanted :: boxA b2 1 34 (.agg #[.slice none 0 0]) :: boxA b1 1 34 (.agg #[.slice (some ⟨g, 0, none⟩) ps.length c0]) :: F) _) := ⟨HS2⟩
     have HS : Bx (St w0 (rowA HD.cells 3 94 (.slice (some ⟨g, 0, none⟩) ps.length c0) qs :: rowA encS 1 9 (.slice (some ⟨gc, 0, none⟩) cols.length cc) cols :: rowA encL 1 4 (.slice (some ⟨gb, 0, none⟩) wanted.length cb) wanted :: boxA b2 1 34 (.agg #[.slice none 0 0]) :: boxA b1 1 34 (.agg #[.slice (some ⟨g, 0, none⟩) ps.length c0]) :: F) _) := ⟨(((HS2.out.erase 2).erase 1).erase 0)⟩; refine ⟨HS.out, ?_⟩
     refine zh 16 rfl HF (fun _ HS => (yl_assign rfl (HF.ev rfl))) HS.out ?_; clear HF a; intro a HF
     refine wh_done (by kernel_rfl) ?_
     replace HS := HS2; clear HS2
     refine ex_then ?_
     refine wp_seq ?_
     refine wp_sr ?_
     refine zm HF ?_; clear HF a; intro a HF
     refine zy HF (yl_not rfl (HF.ev rfl)) ?_; clear HF a; intro a HF
     refine wl_ne ?_
     refine HF.cases 48 rfl (fun cc4 _ => ?_) fun cc4 _ => ?_
     ·clear HF;rename_i HF
      refine wc_true HF rfl ?_
      refine wp_sr ?_
      refine zy HF (yl_build HF rfl (ps := []) rfl (cs := #[.slice none 0 0]) (by kernel_rfl)) ?_; clear HF a; intro a HF
      refine wl_storeBox rfl HF rfl rfl (HF.ev rfl) (HF.ev rfl) HS.out 6 rfl (cells_lit [.slice none 0 0] rfl rfl) (by kernel_rfl) ?_; clear HS; intro w8 HS; replace HS := Bx.mk HS
      have HS : Bx (St w0 (boxA b3 3 94 (.agg #[.slice q.a0 q.d.fCells.length q.c0, .slice q.a1 q.d.fWaits.length q.c1, .bool q.d.fGone]) :: HD.asr q :: sepA ((qs.eraseIdx k).map HD.asr) :: rowA HD.cells 3 94 (.slice (some ⟨g, 0, none⟩) ps.length c0) qs :: rowA encS 1 9 (.slice (some ⟨gc, 0, none⟩) cols.length cc) cols :: rowA encL 1 4 (.slice (some ⟨gb, 0, none⟩) wanted.length cb) wanted :: boxA b2 1 34 (.agg #[.slice none 0 0]) :: boxA b1 1 34 (.agg #[.slice (some ⟨g, 0, none⟩) ps.length c0]) :: F) _) := HS
      refine za HF ?_; clear HF a; intro a HF
      refine wl_ne ?_
      refine wp_ret ?_
      refine ex_then_ret ?_
      refine ex_block_ret ?_
      refine ex_then_ret ?_
      refine ex_then_ret ?_
      refine ex_block_ret ?_
      refine ex_then_ret ?_
      refine bp_ret2 HF Tryz.results63 (HF.resBox rfl (HS.out.box 6 rfl) (by kernel_rfl)) (HF.res rfl) ?_
      replace HS : Bx (St w0 (rowA encS 1 9 (.slice (some ⟨gc, 0, none⟩) cols.length cc) cols :: rowA encL 1 4 (.slice (some ⟨gb, 0, none⟩) wanted.length cb) wanted :: boxA b3 3 94 (.agg #[.slice q.a0 q.d.fCells.length q.c0, .slice q.a1 q.d.fWaits.length q.c1, .bool q.d.fGone]) :: HD.asr q :: sepA ((qs.eraseIdx k).map HD.asr) :: rowA HD.cells 3 94 (.slice (some ⟨g, 0, none⟩) ps.length c0) qs :: boxA b2 1 34 (.agg #[.slice none 0 0]) :: boxA b1 1 34 (.agg #[.slice (some ⟨g, 0, none⟩) ps.length c0]) :: F) _) := ⟨((HS.out).pick 5 rfl).pick 5 rfl⟩
      have hgone := cc2; have hwant := cc3; have hcan := cc4
      rw [hgk] at hgone hcan
      exact .inl ⟨eachTo_fail (k := k) (by rw [dsOf_get]; exact stepPut_fail hgone (by simpa using hwant) (by simpa using hcan)) (by omega), rfl, ((((((HS.out.erase 7).erase 6).erase 5).erase 4).erase 3).erase 2)⟩
     ·clear HF;rename_i HF
      refine wc_false HF rfl ?_
      refine wp_skip ?_
      refine ex_then ?_
      refine wp_region_lit ?_
      refine zy HF (yfa 0 rfl (HF.ev rfl)) ?_; clear HF a; intro a HF
      refine zy HF (ylo (v := .slice (some ⟨g, 0, none⟩) ps.length c0) rfl (HF.ev rfl) (((HS.out.box 7 rfl).cell 0).trans rfl)) ?_; clear HF a; intro a HF
      refine zm HF ?_; clear HF a; intro a HF
      refine zy HF (ylr (cs := [.slice q.a0 q.d.fCells.length q.c0, .slice q.a1 q.d.fWaits.length q.c1, .bool q.d.fGone]) rfl (HF.ev rfl) ((HS.out.box 0 rfl).sub 0 3)) ?_; clear HF a; intro a HF
      refine zy HF (yl_indexAddr (e := 94) (i := k) (size := 3) rfl (HF.ev rfl) (HF.ev rfl) (by kernel_rfl) rfl (by omega)) ?_; clear HF a; intro a HF
      refine wl_storeEn HD.cells_len rfl rfl rfl (HF.ev rfl) (HF.ev rfl) (by kernel_rfl) HS.out 3 rfl (by omega) (z := q) rfl (by first | rfl | simp [Value.oneCell']) ?_; clear HS; intro w9 HS; replace HS := Bx.mk HS
      refine wpList_nil ?_
      refine ex_block ?_
      refine ex_then ?_
      refine wp_region_lit ?_
      refine zm HF ?_; clear HF a; intro a HF
      refine zy HF (yl_addI rfl (HF.ev rfl) (HF.ev rfl) (i64w (by omega))) ?_; clear HF a; intro a HF
      refine za HF ?_; clear HF a; intro a HF
      refine wl_ne ?_
      replace HS := Bx.mk (St.hdIn (((HS.out).pick 2 rfl).pick 2 rfl) (by omega))
      have hcan : (ps.getD k default).d.can row (cols.getD k ByteArray.empty) = true := by rw [hgk] at cc4; simpa using cc4
      have hgone : (ps.getD k default).d.fGone = false := by rw [hgk] at cc2; exact cc2
      have hwant : wanted.getD k false = true := by simpa using cc3
      rw [hgk, hcan, if_pos rfl] at hqd
      have hnext : eachTo (stepPut row (fun i => cols.getD i ByteArray.empty) (fun i => wanted.getD i false)) (dsOf ps) (k + 1) = some (dsOf ((qs.set k q).take (k + 1))) := by rw [take_set_succ _ _ _ (by omega), dsOf_append]; refine eachTo_next (x := q.d) hq ?_; rw [dsOf_get, stepPut_put hgone hwant hcan, ← hqd]
      replace HS := Bx.mk (((((((((HS.out).pick 6 rfl).pick 6 rfl).pick 6 rfl).pick 6 rfl).pick 4 rfl).pick 6 rfl).erase 6))
      exact ⟨k + 1, ⟨qs.set k q, ⟨by omega, by rw [List.length_set]; exact hql, hnext, by rw [drop_set_succ, ← List.drop_drop, ← List.drop_drop, hqd0]⟩, HF.less _ ⟨rfl, rfl, rfl, rfl, rfl, rfl, rfl, trivial⟩, HS.out⟩, (by omega)⟩
    ·skip
     refine wo_alloc rfl rfl HF rfl rfl rfl (Z := [.slice none 0 0, .slice none 0 0, .bool false]) (by kernel_rfl) rfl HS2.out HS.out ?_; clear HF HS HS2 a; intro a w10 b4 HF HS2 HS; replace HS := Bx.mk HS; replace HS2 := Bx.mk HS2; refine ⟨HS.out, ?_⟩
     refine wh_one 10 (by kernel_rfl) ?_
     replace HS2 := Bx.mk ((HS2.out.pick 2 rfl).hdOut k (by omega))
     replace HS2 : Bx (St w0 (HD.asr (qs.getD k default) :: sepA ((qs.eraseIdx k).map HD.asr) :: boxA b4 3 94 (.agg #[.slice none 0 0, .slice none 0 0, .bool false]) :: rowA HD.cells 3 94 (.slice (some ⟨g, 0, none⟩) ps.length c0) qs :: rowA encS 1 9 (.slice (some ⟨gc, 0, none⟩) cols.length cc) cols :: rowA encL 1 4 (.slice (some ⟨gb, 0, none⟩) wanted.length cb) wanted :: boxA b2 1 34 (.agg #[.slice none 0 0]) :: boxA b1 1 34 (.agg #[.slice (some ⟨g, 0, none⟩) ps.length c0]) :: F) _) := ⟨HS2.out⟩
     refine wo_call rfl rfl HF rfl (enter_of Tryz.func111 (by kernel_rfl) rfl) (args := #[.agg #[.slice ((qs.getD k default).a0) ((qs.getD k default).d.fCells.length) ((qs.getD k default).c0), .slice ((qs.getD k default).a1) ((qs.getD k default).d.fWaits.length) ((qs.getD k default).c1), .bool ((qs.getD k default).d.fGone)], .int .i64 row, .string (cols.getD k ByteArray.empty)]) rfl (l3WriteH_any w0 _ (qs.getD k default) row (cols.getD k ByteArray.empty) _ hqw (hct k) HS2.out) rfl rfl ?_
     rintro _ w11 ⟨q, hqd, rfl, hs⟩; refine ⟨_, rfl, ?_⟩; replace HS2 := Bx.mk hs;clear hs HF a;intro a HF
     replace HS2 : Bx (St w0 (HD.asr q :: sepA ((qs.eraseIdx k).map HD.asr) :: boxA b4 3 94 (.agg #[.slice none 0 0, .slice none 0 0, .bool false]) :: rowA HD.cells 3 94 (.slice (some ⟨g, 0, none⟩) ps.length c0) qs :: rowA encS 1 9 (.slice (some ⟨gc, 0, none⟩) cols.length cc) cols :: rowA encL 1 4 (.slice (some ⟨gb, 0, none⟩) wanted.length cb) wanted :: boxA b2 1 34 (.agg #[.slice none 0 0]) :: boxA b1 1 34 (.agg #[.slice (some ⟨g, 0, none⟩) ps.length c0]) :: F) _) := ⟨HS2.out⟩
     clear HS; have HS : Bx (St w0 (rowA HD.cells 3 94 (.slice (some ⟨g, 0, none⟩) ps.length c0) qs :: rowA encS 1 9 (.slice (some ⟨gc, 0, none⟩) cols.length cc) cols :: rowA encL 1 4 (.slice (some ⟨gb, 0, none⟩) wanted.length cb) wanted :: boxA b2 1 34 (.agg #[.slice none 0 0]) :: boxA b1 1 34 (.agg #[.slice (some ⟨g, 0, none⟩) ps.length c0]) :: F) _) := ⟨(((HS2.out.erase 2).erase 1).erase 0)⟩; refine ⟨HS.out, ?_⟩
     refine zh 11 rfl HF (fun _ HS => (yl_move rfl (HF.ev rfl))) HS.out ?_; clear HF a; intro a HF
     refine zh 12 rfl HF (fun _ HS => (yl_extract rfl (HF.ev rfl) rfl)) HS.out ?_; clear HF a; intro a HF
     refine zh 13 rfl HF (fun _ HS => (yl_extract rfl (HF.ev rfl) rfl)) HS.out ?_; clear HF a; intro a HF
     refine wh_one 15 (by kernel_rfl) ?_
     refine wo_storeBox rfl rfl rfl rfl (HF.ev rfl) (HF.ev rfl) HS2.out 2 rfl (cells_lit [.slice q.a0 q.d.fCells.length q.c0, .slice q.a1 q.d.fWaits.length q.c1, .bool q.d.fGone] rfl rfl) (by kernel_rfl) ?_
     clear HS HS2; intro w12 HS2; replace HS2 : Bx (St w0 (HD.asr q :: sepA ((qs.eraseIdx k).map HD.asr) :: boxA b4 3 94 (.agg #[.slice q.a0 q.d.fCells.length q.c0, .slice q.a1 q.d.fWaits.length q.c1, .bool q.d.fGone]) :: rowA HD.cells 3 94 (.slice (some ⟨g, 0, none⟩) ps.length c0) qs :: rowA encS 1 9 (.slice (some ⟨gc, 0, none⟩) cols.length cc) cols :: rowA encL 1 4 (.slice (some ⟨gb, 0, none⟩) wanted.length cb) wanted :: boxA b2 1 34 (.agg #[.slice none 0 0]) :: boxA b1 1 34 (.agg #[.slice (some ⟨g, 0, none⟩) ps.length c0]) :: F) _) := ⟨HS2⟩
     have HS : Bx (St w0 (rowA HD.cells 3 94 (.slice (some ⟨g, 0, none⟩) ps.length c0) qs :: rowA encS 1 9 (.slice (some ⟨gc, 0, none⟩) cols.length cc) cols :: rowA encL 1 4 (.slice (some ⟨gb, 0, none⟩) wanted.length cb) wanted :: boxA b2 1 34 (.agg #[.slice none 0 0]) :: boxA b1 1 34 (.agg #[.slice (some ⟨g, 0, none⟩) ps.length c0]) :: F) _) := ⟨(((HS2.out.erase 2).erase 1).erase 0)⟩; refine ⟨HS.out, ?_⟩
     refine zh 16 rfl HF (fun _ HS => (yl_assign rfl (HF.ev rfl))) HS.out ?_; clear HF a; intro a HF
     refine wh_done (by kernel_rfl) ?_
     replace HS := HS2; clear HS2
     refine ex_then ?_
     refine wp_seq ?_
     refine wp_sr ?_
     refine zm HF ?_; clear HF a; intro a HF
     refine zy HF (yl_not rfl (HF.ev rfl)) ?_; clear HF a; intro a HF
     refine wl_ne ?_
     refine HF.cases 48 rfl (fun cc5 _ => ?_) fun cc5 _ => ?_
     ·clear HF;rename_i HF
      refine wc_true HF rfl ?_
      refine wp_sr ?_
      refine zy HF (yl_build HF rfl (ps := []) rfl (cs := #[.slice none 0 0]) (by kernel_rfl)) ?_; clear HF a; intro a HF
      refine wl_storeBox rfl HF rfl rfl (HF.ev rfl) (HF.ev rfl) HS.out 6 rfl (cells_lit [.slice none 0 0] rfl rfl) (by kernel_rfl) ?_; clear HS; intro w13 HS; replace HS := Bx.mk HS
      have HS : Bx (St w0 (HD.asr q :: sepA ((qs.eraseIdx k).map HD.asr) :: boxA b4 3 94 (.agg #[.slice q.a0 q.d.fCells.length q.c0, .slice q.a1 q.d.fWaits.length q.c1, .bool q.d.fGone]) :: rowA HD.cells 3 94 (.slice (some ⟨g, 0, none⟩) ps.length c0) qs :: rowA encS 1 9 (.slice (some ⟨gc, 0, none⟩) cols.length cc) cols :: rowA encL 1 4 (.slice (some ⟨gb, 0, none⟩) wanted.length cb) wanted :: boxA b2 1 34 (.agg #[.slice none 0 0]) :: boxA b1 1 34 (.agg #[.slice (some ⟨g, 0, none⟩) ps.length c0]) :: F) _) := HS
      refine za HF ?_; clear HF a; intro a HF
      refine wl_ne ?_
      refine wp_ret ?_
      refine ex_then_ret ?_
      refine ex_block_ret ?_
      refine ex_then_ret ?_
      refine ex_then_ret ?_
      refine ex_block_ret ?_
      refine ex_then_ret ?_
      refine bp_ret2 HF Tryz.results63 (HF.resBox rfl (HS.out.box 6 rfl) (by kernel_rfl)) (HF.res rfl) ?_
      replace HS : Bx (St w0 (rowA encS 1 9 (.slice (some ⟨gc, 0, none⟩) cols.length cc) cols :: rowA encL 1 4 (.slice (some ⟨gb, 0, none⟩) wanted.length cb) wanted :: HD.asr q :: sepA ((qs.eraseIdx k).map HD.asr) :: boxA b4 3 94 (.agg #[.slice q.a0 q.d.fCells.length q.c0, .slice q.a1 q.d.fWaits.length q.c1, .bool q.d.fGone]) :: rowA HD.cells 3 94 (.slice (some ⟨g, 0, none⟩) ps.length c0) qs :: boxA b2 1 34 (.agg #[.slice none 0 0]) :: boxA b1 1 34 (.agg #[.slice (some ⟨g, 0, none⟩) ps.length c0]) :: F) _) := ⟨((HS.out).pick 5 rfl).pick 5 rfl⟩
      have hgone := cc2; have hwant := cc3; have hcan := cc5
      rw [hgk] at hgone hcan
      exact .inl ⟨eachTo_fail (k := k) (by rw [dsOf_get]; exact stepPut_fail hgone (by simpa using hwant) (by simpa using hcan)) (by omega), rfl, ((((((HS.out.erase 7).erase 6).erase 5).erase 4).erase 3).erase 2)⟩
     ·clear HF;rename_i HF
      refine wc_false HF rfl ?_
      refine wp_skip ?_
      refine ex_then ?_
      refine wp_region_lit ?_
      refine zy HF (yfa 0 rfl (HF.ev rfl)) ?_; clear HF a; intro a HF
      refine zy HF (ylo (v := .slice (some ⟨g, 0, none⟩) ps.length c0) rfl (HF.ev rfl) (((HS.out.box 7 rfl).cell 0).trans rfl)) ?_; clear HF a; intro a HF
      refine zm HF ?_; clear HF a; intro a HF
      refine zy HF (ylr (cs := [.slice q.a0 q.d.fCells.length q.c0, .slice q.a1 q.d.fWaits.length q.c1, .bool q.d.fGone]) rfl (HF.ev rfl) ((HS.out.box 2 rfl).sub 0 3)) ?_; clear HF a; intro a HF
      refine zy HF (yl_indexAddr (e := 94) (i := k) (size := 3) rfl (HF.ev rfl) (HF.ev rfl) (by kernel_rfl) rfl (by omega)) ?_; clear HF a; intro a HF
      refine wl_storeEn HD.cells_len rfl rfl rfl (HF.ev rfl) (HF.ev rfl) (by kernel_rfl) HS.out 3 rfl (by omega) (z := q) rfl (by first | rfl | simp [Value.oneCell']) ?_; clear HS; intro w14 HS; replace HS := Bx.mk HS
      refine wpList_nil ?_
      refine ex_block ?_
      refine ex_then ?_
      refine wp_region_lit ?_
      refine zm HF ?_; clear HF a; intro a HF
      refine zy HF (yl_addI rfl (HF.ev rfl) (HF.ev rfl) (i64w (by omega))) ?_; clear HF a; intro a HF
      refine za HF ?_; clear HF a; intro a HF
      refine wl_ne ?_
      replace HS := Bx.mk (St.hdIn (((HS.out).pick 1 rfl).pick 1 rfl) (by omega))
      have hcan : (ps.getD k default).d.can row (cols.getD k ByteArray.empty) = true := by rw [hgk] at cc5; simpa using cc5
      have hgone : (ps.getD k default).d.fGone = false := by rw [hgk] at cc2; exact cc2
      have hwant : wanted.getD k false = true := by simpa using cc3
      rw [hgk, hcan, if_pos rfl] at hqd
      have hnext : eachTo (stepPut row (fun i => cols.getD i ByteArray.empty) (fun i => wanted.getD i false)) (dsOf ps) (k + 1) = some (dsOf ((qs.set k q).take (k + 1))) := by rw [take_set_succ _ _ _ (by omega), dsOf_append]; refine eachTo_next (x := q.d) hq ?_; rw [dsOf_get, stepPut_put hgone hwant hcan, ← hqd]
      replace HS := Bx.mk (((((((((HS.out).pick 6 rfl).pick 6 rfl).pick 6 rfl).pick 6 rfl).pick 4 rfl).pick 6 rfl).erase 6))
      exact ⟨k + 1, ⟨qs.set k q, ⟨by omega, by rw [List.length_set]; exact hql, hnext, by rw [drop_set_succ, ← List.drop_drop, ← List.drop_drop, hqd0]⟩, HF.less _ ⟨rfl, rfl, rfl, rfl, rfl, rfl, rfl, trivial⟩, HS.out⟩, (by omega)⟩
 ·clear HF;rename_i HF
  have dcc1 := of_decide_eq_false cc1
  refine wc_false HF rfl ?_
  refine wp_exit ?_
  refine ex_then_exit ?_
  refine ex_then_exit ?_
  refine ex_block_hit ?_
  refine ex_then ?_
  refine wp_sr ?_
  refine zy HF (ylr (cs := [.slice (some ⟨g, 0, none⟩) ps.length c0]) rfl (HF.ev rfl) ((HS.out.box 5 rfl).sub 0 1)) ?_; clear HF a; intro a HF
  refine wl_storeBox rfl HF rfl rfl (HF.ev rfl) (HF.ev rfl) HS.out 4 rfl (cells_lit [.slice (some ⟨g, 0, none⟩) ps.length c0] rfl rfl) (by kernel_rfl) ?_; clear HS; intro w15 HS; replace HS := Bx.mk HS
  have HS : Bx (St w0 (rowA HD.cells 3 94 (.slice (some ⟨g, 0, none⟩) ps.length c0) qs :: sepA (qs.map HD.asr) :: rowA encS 1 9 (.slice (some ⟨gc, 0, none⟩) cols.length cc) cols :: rowA encL 1 4 (.slice (some ⟨gb, 0, none⟩) wanted.length cb) wanted :: boxA b2 1 34 (.agg #[.slice (some ⟨g, 0, none⟩) ps.length c0]) :: boxA b1 1 34 (.agg #[.slice (some ⟨g, 0, none⟩) ps.length c0]) :: F) _) := HS
  refine za HF ?_; clear HF a; intro a HF
  refine wl_ne ?_
  refine wp_ret ?_
  refine bp_ret2 HF Tryz.results63 (HF.resBox rfl (HS.out.box 4 rfl) (by kernel_rfl)) (HF.res rfl) ?_
  replace HS : Bx (St w0 (rowA HD.cells 3 94 (.slice (some ⟨g, 0, none⟩) ps.length c0) qs :: sepA (qs.map HD.asr) :: rowA encS 1 9 (.slice (some ⟨gc, 0, none⟩) cols.length cc) cols :: rowA encL 1 4 (.slice (some ⟨gb, 0, none⟩) wanted.length cb) wanted :: boxA b2 1 34 (.agg #[.slice (some ⟨g, 0, none⟩) ps.length c0]) :: boxA b1 1 34 (.agg #[.slice (some ⟨g, 0, none⟩) ps.length c0]) :: F) _) := ⟨((((HS.out).pick 3 rfl).pick 3 rfl).pick 3 rfl).pick 3 rfl⟩
  obtain rfl : k = ps.length := by omega
  rw [← hql, List.take_length] at hq
  rw [hql] at hq
  exact .inr ⟨qs, hq, rfl, ((HS.out.erase 5).erase 4)⟩

end Go.Proofs.YtoaopmkbfifhaaaGreatDoor

/- Laws for the draws, 2: stores into rows in drawn regions; what holds as long as blocks lie as they lie. -/
namespace Go.Proofs.YtoaopmkbfifhaaaGreatDoor
set_option linter.unusedVariables false
set_option linter.unusedSimpArgs false
set_option maxHeartbeats 1000000
set_option maxRecDepth 100000
open Go.RowKit
section
variable {P : Program} {ops : Array Oper} {Q : Exit → Act → World → Prop} {o : Oper} {a : Act} {w W : World} {s : List Asr} {K : Act → World → Prop} {α : Type} {size : Nat} {enc : α → List Value} {e : TypeId} {i0 : Nat}
theorem wo_store1 (hi0 : ops[i0]? = some o) (hg : o.guard = none) {t : TypeId} {x y : Operand} (ho : o.op = .store t x y) (hd : o.dst = none) {p : Addr} {u v : Value} (hx : a.eval x = .pointer (some p)) (hy : a.eval y = v) (hs : scalar? P t = true) (hc : w.cell? p = some u) (hf : w.frozen? p = false) (hv : v.oneCell' = true)
    (h : K a (w.setCell p v)) : wpOp P ops Q i0 K a w := by
  refine wo_of hi0 hg ?_
  have hr : (execOp a.eval o).run P w = .ok .skip (w.setCell p v) := by
    unfold execOp
    simp only [ho, hx, hy]
    simp [Sem.run_bind, run_store1 hs hc hf hv]
  unfold Oper.wp
  rw [hr]
  show K (a.put o.dst undef) _
  rw [hd]
  exact h
theorem wo_storeE {enc : α → List Value} (he : ∀ x, (enc x).length = 1) (hi0 : ops[i0]? = some o) (hg : o.guard = none) {t : TypeId} {x y : Operand} (ho : o.op = .store t x y) (hd : o.dst = none) {g n cap j : Nat} {v : Value} (hx : a.eval x = .pointer (some ⟨g, 0 + j * 1, none⟩)) (hy : a.eval y = v) (hs : scalar? P t = true) (hS : St W s w) (i : Nat) {xs : List α}
    (hi : s[i]? = some (rowA enc 1 e (.slice (some ⟨g, 0, none⟩) n cap) xs)) (hj : j < xs.length) {z : α} (hz : enc z = [v]) (hv : v.oneCell' = true)
    (h : ∀ w', St W (s.set i (rowA enc 1 e (.slice (some ⟨g, 0, none⟩) n cap) (xs.set j z))) w' → K a w') : wpOp P ops Q i0 K a w := by
  obtain ⟨g', e1, rfl, hb, hw, hlt⟩ := hS.rowOpen i hi (by omega)
  simp only [Option.some.injEq, Addr.mk.injEq, and_true] at e1
  subst e1
  have e0 : 0 + j * 1 = j := by omega
  have hc := hS.elem he i hi (List.getElem?_eq_getElem hj)
  rw [e0] at hx hc
  have hc0 : w.cell? ⟨g, j, none⟩ = some ((enc xs[j])[0]'(by rw [he]; omega)) := by
    have := hc 0 _ (List.getElem?_eq_getElem (by rw [he]; omega))
    simpa using this
  have hp := hS.putRow he i hi hj z
  rw [hz, show j * 1 = j by omega] at hp
  exact wo_store1 hi0 hg ho hd hx hy hs hc0 (hw.frozenAt j) hv (h _ hp)
theorem wo_storeEn (he : ∀ x, (enc x).length = size) (hi0 : ops[i0]? = some o) (hg : o.guard = none) {t : TypeId} {x y : Operand} (ho : o.op = .store t x y) (hd : o.dst = none) {g n cap j : Nat} {A : Array Value} (hx : a.eval x = .pointer (some ⟨g, 0 + j * size, none⟩)) (hy : a.eval y = .agg A) (hs : rowOf? P t size = true) (hS : St W s w) (i : Nat) {xs : List α}
    (hi : s[i]? = some (rowA enc size e (.slice (some ⟨g, 0, none⟩) n cap) xs)) (hj : j < xs.length) {z : α} (hz : A.toList = enc z) (hv : A.all (·.oneCell') = true)
    (h : ∀ w', St W (s.set i (rowA enc size e (.slice (some ⟨g, 0, none⟩) n cap) (xs.set j z))) w' → K a w') : wpOp P ops Q i0 K a w := by
  obtain ⟨g', e1, rfl, hb, hw, hlt⟩ := hS.rowOpen i hi (by omega)
  simp only [Option.some.injEq, Addr.mk.injEq, and_true] at e1
  subst e1
  rw [Nat.zero_add] at hx
  have hfl := flat_len enc size he xs
  have hj2 : j * size + size ≤ xs.length * size := by rw [← Nat.succ_mul]; exact Nat.mul_le_mul_right size hj
  have hsz : A.size = size := by rw [← Array.length_toList, hz, he]
  refine wo_of hi0 hg (wp_store_mid t x y ho g (j * size) A hx hy (by rw [hsz]; exact owns_there hw _ _ (by rw [hfl]; exact hj2)) (by rw [hsz]; exact (rowOf_spec hs).2) hv ?_)
  rw [hd, hz]
  exact h _ (hS.putRow he i hi hj z)
end
section
variable {P : Program} {o : Oper} {a : Act} {w : World} {e : TypeId}
theorem yl_sliceLo {t : TypeId} {x y : Operand} (ho : o.op = .slice t x (some y) none none) {g off n cap : Nat} (hx : a.eval x = .slice (some ⟨g, off, none⟩) n cap) {kk : IntKind} {m : Int} (hy : a.eval y = .int kk m) {size : Nat} (hu : elemOf? P t = some (e, size)) {k : Nat} (hm : m = (k : Int)) (hk : k ≤ n) (hc : k < cap) : Yl P w o a (.slice (some ⟨g, off + k * size, none⟩) (n - k) (cap - k)) := by
  unfold elemOf? at hu
  split at hu
  · rename_i e' hu'
    split at hu
    · rename_i inf hq
      simp only [Option.some.injEq, Prod.mk.injEq] at hu
      obtain ⟨_, rfl⟩ := hu
      subst hm
      have h2 : ((k : Int) ≤ (n : Int)) := by omega
      have h3 : ¬ cap = k := by omega
      unfold Yl execOp
      simp only [ho, hx, hy, Option.map_some, Option.map_none, Instr.sliceAt, Instr.slice, Sem.run_bind, run_underlying hu' w, Result.andThen_ok]
      simp [Instr.slice, Instr.sliceBounds, Instr.sliceBound, asIntOf, go_sem, run_underlying hu' w, sizeOf, typeInfo, hq, h2, h3, Addr.add]
      rw [if_pos hk]
      by_cases hz : k * inf.size = 0
      · rw [if_pos hz, hz, Nat.add_zero]
      · rw [if_neg hz]
    · cases hu
  · cases hu
end
section
variable {P : Program} {ops : Array Oper} {Q : Exit → Act → World → Prop} {a : Act} {w W : World} {s : List Asr} {fuel m N : Nat} {listed : Array Bool} {oi : Oper} {l : List (Nat × Value)} {K : Act → World → Prop}
theorem wo_y {i : Nat} (hi : ops[i]? = some oi) (hg : oi.guard = none) (hF : Fr N a l) {d : Nat} (hd : oi.dst = some d) (hN : Nat.blt d N = true) {v : Value} (hy : Yl P w oi a v) (h : ∀ a', Fr N a' ((d, v) :: l) → K a' w) : wpOp P ops Q i K a w := by
  refine wo_of hi hg ?_
  unfold Oper.wp
  rw [hy]
  show K (a.put oi.dst v) w
  rw [hd]
  exact h _ (hF.put (Nat.le_of_ble_eq_true hN) v)
end
/-! ### What holds as long as blocks lie as they lie -/
def holdsA (P : World → Prop) : Asr := ⟨fun w f => ∀ w', w.heap.size ≤ w'.heap.size → (∀ b, b ∈ f → w'.heap[b]? = w.heap[b]?) → P w', fun w w' f hs hb h w2 hs2 hb2 => h w2 (Nat.le_trans hs hs2) fun b hm => (hb2 b hm).trans (hb b hm)⟩
theorem St.hold {W w : World} {A : Asr} {F : List Asr} {P : World → Prop} (h : St W (A :: F) w) (hP : ∀ w f, A.P w f → P w) : St W (holdsA P :: F) w := by
  obtain ⟨f, ⟨f1, f2, rfl, h1, h2⟩, hn, hb⟩ := h.sep
  exact ⟨h.bel, f1 ++ f2, ⟨f1, f2, rfl, fun w' hs hb => hP w' f1 (A.loc _ _ _ hs hb h1), h2⟩, hn, hb⟩
theorem St.holds {W w : World} {s : List Asr} {P : World → Prop} (h : St W s w) (i : Nat) (hi : s[i]? = some (holdsA P)) : P w := by
  obtain ⟨f, h1, _⟩ := h.get i hi
  exact h1 w (Nat.le_refl _) fun _ _ => rfl
theorem Rd.drop {α : Type} {enc : α → List Value} {size : Nat} {w : World} {g o n : Nat} {xs : List α} (h : Rd enc size w (some ⟨g, o, none⟩) n xs) {k : Nat} (hk : k ≤ xs.length) : Rd enc size w (some ⟨g, o + k * size, none⟩) (n - k) (xs.drop k) := by
  refine ⟨by rw [List.length_drop, h.len], fun i hi => ?_⟩
  rw [List.length_drop] at hi
  obtain ⟨b, off, x, hx, e, hlt, hr⟩ := h.at_ (k + i) (by omega)
  simp only [Option.some.injEq, Addr.mk.injEq, and_true] at e
  obtain ⟨rfl, rfl⟩ := e
  exact ⟨g, o + k * size, x, by rw [List.getElem?_drop]; exact hx, rfl, hlt, by rw [Nat.add_assoc, ← Nat.add_mul]; exact hr⟩
/-! ### Disks of the draws -/
def newD : DiskD := ⟨List.replicate 64 ByteArray.empty, [], false⟩
def lostD : DiskD := ⟨List.replicate 64 ByteArray.empty, [], true⟩
theorem newD_c : newD.fCells.length = 64 := List.length_replicate ..
theorem lostD_c : lostD.fCells.length = 64 := List.length_replicate ..
/-- A disk of which all can be written, at most so many writes waiting. -/
structure DiskD.nice (n : Nat) (d : DiskD) : Prop where
  g : d.fGone = false
  c : d.fCells.length = 64
  w : d.fWaits.length ≤ n
  a : ∀ k, k < d.fWaits.length → 0 ≤ (d.fWaits.getD k default).fAt ∧ (d.fWaits.getD k default).fAt < 64
  z : ∀ x, x ∈ d.fCells → x.size ≤ 1000
  u : ∀ x, x ∈ d.fWaits → x.fText.size ≤ 1000
theorem getD_le {xs : List ByteArray} {m : Nat} (h : ∀ x, x ∈ xs → x.size ≤ m) (k : Nat) : (xs.getD k ByteArray.empty).size ≤ m := by
  by_cases hk : k < xs.length
  · rw [show xs.getD k ByteArray.empty = xs[k] by simp [List.getD, hk]]
    exact h _ (List.getElem_mem hk)
  · rw [show xs.getD k ByteArray.empty = ByteArray.empty by simp [List.getD, List.getElem?_eq_none (Nat.le_of_not_lt hk)]]
    exact Nat.zero_le _
theorem waits_le {xs : List WaitD} {m : Nat} (h : ∀ x, x ∈ xs → x.fText.size ≤ m) (k : Nat) : (xs.getD k default).fText.size ≤ m := by
  by_cases hk : k < xs.length
  · rw [show xs.getD k default = xs[k] by simp [List.getD, hk]]
    exact h _ (List.getElem_mem hk)
  · rw [show xs.getD k default = default by simp [List.getD, List.getElem?_eq_none (Nat.le_of_not_lt hk)]]
    exact Nat.zero_le _
theorem nice_new : newD.nice 0 := ⟨rfl, newD_c, Nat.le_refl _, fun k hk => absurd hk (Nat.not_lt_zero _), fun x hx => by rw [List.eq_of_mem_replicate hx]; exact Nat.zero_le _, fun x hx => by cases hx⟩
theorem DiskD.nice.fits {n : Nat} {d : DiskD} (h : d.nice n) (hn : n ≤ 1000) : d.fits := ⟨by rw [h.c]; omega, by have := h.w; omega, fun k => by have := getD_le h.z k; omega, fun k => by have := waits_le h.u k; omega⟩
theorem lost_fits : lostD.fits := ⟨by rw [lostD_c]; omega, Nat.zero_le _, fun k => by have := getD_le (xs := lostD.fCells) (m := 0) (fun x hx => by rw [List.eq_of_mem_replicate hx]; exact Nat.zero_le _) k; omega, fun k => Nat.zero_le _⟩
theorem row_reads {α : Type} {enc : α → List Value} {size : Nat} {T : TypeId} (he : ∀ x, (enc x).length = size) {w : World} {f : List Nat} {ao : Option Addr} {n c : Nat} {xs : List α} (h : (rowA enc size T (.slice ao n c) xs).P w f) : Rd enc size w ao n xs := by
  obtain ⟨_, B1, r⟩ := h
  obtain ⟨u, e0, k0, d0⟩ := r.rd he
  simp only [Value.slice.injEq] at k0
  obtain ⟨rfl, hn, rfl⟩ := k0
  rw [hn]; exact d0
theorem HD.asr_reads1 {q : HD} {w : World} {f : List Nat} (h : q.asr.P w f) : q.reads w := by
  obtain ⟨f1, f2, rfl, h1, ⟨f3, f4, rfl, h2, h3⟩⟩ := h
  exact ⟨row_reads encS_len h1, row_reads WaitD.cells_len h2⟩
/-- Three such disks. -/
def niceS (n : Nat) (ds : List DiskD) : Prop := ds.length = 3 ∧ ∀ d, d ∈ ds → d.nice n
theorem niceS.at {n : Nat} {ds : List DiskD} (h : niceS n ds) {k : Nat} (hk : k < 3) : (ds.getD k default).nice n := by
  rw [getD_get (by rw [h.1]; exact hk)]; exact h.2 _ (List.getElem_mem _)
end Go.Proofs.YtoaopmkbfifhaaaGreatDoor

/- Numbers and records as texts: walked. -/
namespace Go.Proofs.YtoaopmkbfifhaaaGreatDoor
set_option linter.unusedVariables false
set_option linter.unusedSimpArgs false
set_option maxHeartbeats 1000000
set_option maxRecDepth 100000
open Go.RowKit

theorem numPutI_any (n : Int) (w0 : World) (hT : TabP w0) : Calls Tryz.prog 80 #[.int .i64 n] w0 fun e w' => e = .returned (.string (numB n)) ∧ Below w0.heap.size w0 w' := by
 have HT := Bx.mk hT; clear hT
 have HS := Bx.mk (St.start w0)
 refine wc_enter Tryz.func80 rfl Tryz.ntmps80 [(0, .int .i64 n)] ⟨rfl, trivial⟩ rfl ?_; intro a HF
 refine wp_sr ?_
 refine za HF ?_; clear HF a; intro a HF
 refine wl_ne ?_
 refine wp_seq ?_
 refine wp_sr ?_
 refine zm HF ?_; clear HF a; intro a HF
 refine wl_callB rfl HF rfl (enter_of Tryz.func52 (by kernel_rfl) rfl) (args := #[.int .i64 n, .int .i64 0, .int .i64 999999999]) rfl (v := .bool (inB n 0 999999999)) (((within_any n 0 999999999 _).mono fun _ _ h => ⟨h.1, h.2 ▸ Below.refl _ _⟩)) rfl rfl HS.out ?_; clear HF HS a; intro w1 a HS HF; replace HS := Bx.mk HS
 refine zy HF (yl_not rfl (HF.ev rfl)) ?_; clear HF a; intro a HF
 refine wl_ne ?_
 refine HF.cases 5 rfl (fun cc1 _ => ?_) fun cc1 _ => ?_
 ·clear HF;rename_i HF
  refine wc_true HF rfl ?_
  refine wp_sr ?_
  refine za HF ?_; clear HF a; intro a HF
  refine wl_ne ?_
  refine wp_ret ?_
  refine ex_then_ret ?_
  refine bp_ret1 HF Tryz.results80 (HF.res rfl) ?_
  exact ⟨by rw [numB_out (by have := cc1; simp [inB] at this; omega)]; rfl, HS.out.bel⟩
 ·clear HF;rename_i HF
  refine wc_false HF rfl ?_
  refine wp_skip ?_
  refine ex_then ?_
  refine wp_seq ?_
  have hin : inB n 0 999999999 = true := by simpa using cc1
  obtain ⟨hn0, hn1⟩ : 0 ≤ n ∧ n ≤ 999999999 := by unfold inB at hin; simpa using hin
  obtain ⟨m, rfl⟩ : ∃ m : Nat, n = (m : Int) := ⟨n.toNat, by omega⟩
  refine wp_region_lit ?_
  refine zm HF ?_; clear HF a; intro a HF
  refine wl_callB rfl HF rfl (enter_of Tryz.func126 (by kernel_rfl) rfl) (args := #[.int .i64 (m : Int)]) rfl (v := .string (decB m)) (itoa_any m (by omega) _ (HT.out.below HS.out.bel)) rfl rfl HS.out ?_; clear HF HS a; intro w2 a HS HF; replace HS := Bx.mk HS
  refine za HF ?_; clear HF a; intro a HF
  refine wl_ne ?_
  refine wp_ret ?_
  refine bp_ret1 HF Tryz.results80 (HF.res rfl) ?_
  exact ⟨by rw [numB_in hn0 hn1, Int.toNat_natCast], HS.out.bel⟩

theorem size1 (x : UInt8) : (⟨#[x]⟩ : ByteArray).size = 1 := rfl
theorem le_of_cmp {n : Nat} (h : decide ((2048 : Int) < (n : Int)) = false) : n ≤ 2048 := by have := of_decide_eq_false h; omega
theorem gt_of_cmp {n : Nat} (h : decide ((2048 : Int) < (n : Int)) = true) : ¬ n ≤ 2048 := by have := of_decide_eq_true h; omega

theorem fieldsPutI_any (a0 : Option Addr) (n c0 : Nat) (xs : List ByteArray) (w0 : World) (hT : TabP w0) (hl : xs.length ≤ 1048576) (hx : szs xs) (hR : Rd encS 1 w0 a0 n xs) : Calls Tryz.prog 124 #[.slice a0 n c0] w0 fun e w' => e = .returned (.tuple #[.string (fieldsPut xs).1, .bool (fieldsPut xs).2]) ∧ Below w0.heap.size w0 w' := by
 obtain rfl := hR.len
 obtain ⟨g0, o0, r0⟩ := hR.opn; have R0 := Bx.mk r0; clear r0 hR
 have HT := Bx.mk hT; clear hT
 have HS := Bx.mk (St.start w0)
 refine wc_enter Tryz.func124 rfl Tryz.ntmps124 [(0, .slice a0 xs.length c0)] ⟨rfl, trivial⟩ rfl ?_; intro a HF
 refine wp_sr ?_
 refine za HF ?_; clear HF a; intro a HF
 refine za HF ?_; clear HF a; intro a HF
 refine wl_ne ?_
 refine wp_seq ?_
 refine wp_sr ?_
 refine zm HF ?_; clear HF a; intro a HF
 refine zy HF (yl_lenL (e := 9) (size := 1) rfl (HF.ev rfl) (by kernel_rfl)) ?_; clear HF a; intro a HF
 refine zy HF (yl_gtrI rfl (HF.ev rfl) (HF.ev rfl)) ?_; clear HF a; intro a HF
 refine wl_ne ?_
 refine HF.cases 9 rfl (fun cc1 _ => ?_) fun cc1 _ => ?_
 ·clear HF;rename_i HF
  have dcc1 := of_decide_eq_true cc1
  refine wc_true HF rfl ?_
  refine wp_sr ?_
  refine za HF ?_; clear HF a; intro a HF
  refine za HF ?_; clear HF a; intro a HF
  refine wl_ne ?_
  refine wp_ret ?_
  refine ex_then_ret ?_
  refine bp_ret2 HF Tryz.results124 (HF.res rfl) (HF.res rfl) ?_
  exact ⟨by rw [fieldsPut_long (by omega)]; rfl, HS.out.bel⟩
 ·clear HF;rename_i HF
  have dcc1 := of_decide_eq_false cc1
  refine wc_false HF rfl ?_
  refine wp_skip ?_
  refine ex_then ?_
  refine wp_sr ?_
  refine wl_alloc rfl HF rfl rfl rfl (Z := [.pointer none, .slice none 0 0]) (by kernel_rfl) rfl HS.out ?_; clear HF HS a; intro a w1 b1 HF HS; replace HS := Bx.mk HS
  refine wl_ne ?_
  refine wp_seq ?_
  refine wp_sr ?_
  refine zm HF ?_; clear HF a; intro a HF
  refine zy HF (yl_lenL (e := 9) (size := 1) rfl (HF.ev rfl) (by kernel_rfl)) ?_; clear HF a; intro a HF
  refine zm HF ?_; clear HF a; intro a HF
  refine wl_ne ?_
  refine wp_block ?_
  replace HS := Bx.mk HS.out.bldNew
  refine wc_loop (ι := Nat) (fun k a w => (k ≤ xs.length ∧ (recB (xs.take k)).size ≤ 2048) ∧ Fr 27 a [(4, .pointer (some ⟨b1, 0, none⟩)), (10, .slice a0 xs.length c0), (11, .int .i64 (xs.length : Int)), (12, .int .i64 (k : Int))] ∧ St w0 ([bldA b1 (recB (xs.take k)).data.toList]) w) (fun k => xs.length - k) 0 ⟨⟨Nat.zero_le _, by simp [recB]⟩, HF.less _ ⟨rfl, rfl, rfl, rfl, trivial⟩, HS.out⟩ ?_
  clear HF HS; clear a
  rintro k a w2 ⟨⟨hk, hr⟩, HF, HS⟩
  replace HS := Bx.mk HS
  have hxk := hx k; have hdec := decB_20 (n := (xs.getD k ByteArray.empty).size) (by omega)
  refine wp_sr ?_
  refine zy HF (yl_lssI rfl (HF.ev rfl) (HF.ev rfl)) ?_; clear HF a; intro a HF
  refine wl_ne ?_
  refine wp_seq ?_
  refine HF.cases 13 rfl (fun cc2 _ => ?_) fun cc2 _ => ?_
  ·clear HF;rename_i HF
   have dcc2 := of_decide_eq_true cc2
   refine wc_true HF rfl ?_
   refine wp_skip ?_
   refine ex_then ?_
   refine wp_seq ?_
   refine wp_block ?_
   refine wp_sr ?_
   refine zy HF (yl_indexAddrR (e := 9) (i := k) (size := 1) rfl (HF.ev rfl) (HF.ev rfl) (by kernel_rfl) rfl (by omega) (R0.out.ao k (by omega))) ?_; clear HF a; intro a HF
   refine zy HF (ylo (v := .string (xs.getD k ByteArray.empty)) rfl (HF.ev rfl) (R0.out.elem1 HS.out (get_getD (xs := xs) (j := k) (d := ByteArray.empty) (by omega)) rfl)) ?_; clear HF a; intro a HF
   refine za HF ?_; clear HF a; intro a HF
   refine wl_ne ?_
   refine wp_sr ?_
   refine zm HF ?_; clear HF a; intro a HF
   refine zy HF (yl_lenS rfl (HF.ev rfl) (by kernel_rfl)) ?_; clear HF a; intro a HF
   refine wl_callB rfl HF rfl (enter_of Tryz.func126 (by kernel_rfl) rfl) (args := #[.int .i64 ((xs.getD k ByteArray.empty).size : Int)]) rfl (v := .string (decB ((xs.getD k ByteArray.empty).size))) (itoa_any ((xs.getD k ByteArray.empty).size) (by omega) _ (HT.out.below HS.out.bel)) rfl rfl HS.out ?_; clear HF HS a; intro w3 a HS HF; replace HS := Bx.mk HS
   replace HS : Bx (St w0 ([bldA b1 (recB (xs.take k)).data.toList]) _) := ⟨(HS.out).pick 0 rfl⟩
   refine wl_call rfl HF rfl (enter_of Tryz.func153 (by kernel_rfl) rfl) (args := #[.pointer (some ⟨b1, 0, none⟩), .string (decB ((xs.getD k ByteArray.empty).size))]) rfl (writeS_any w0 _ b1 ((recB (xs.take k)).data.toList) (decB ((xs.getD k ByteArray.empty).size)) (by simp only [List.length_append, List.length_cons, List.length_nil, ← size_list]; omega) HS.out) rfl rfl ?_
   rintro _ w4 ⟨rfl, hs1⟩
   refine ⟨_, rfl, ?_⟩; replace HS := Bx.mk hs1;clear hs1 HF a;intro a HF
   try dsimp only [List.eraseIdx] at HS
   refine wl_ne ?_
   refine wp_sr ?_
   replace HS : Bx (St w0 ([bldA b1 ((recB (xs.take k)).data.toList ++ (decB ((xs.getD k ByteArray.empty).size)).data.toList)]) _) := ⟨(HS.out).pick 0 rfl⟩
   refine wl_call rfl HF rfl (enter_of Tryz.func154 (by kernel_rfl) rfl) (args := #[.pointer (some ⟨b1, 0, none⟩), .int .u8 58]) rfl (writeB_any w0 _ b1 ((recB (xs.take k)).data.toList ++ (decB ((xs.getD k ByteArray.empty).size)).data.toList) (58 : UInt8) (by simp only [List.length_append, List.length_cons, List.length_nil, ← size_list]; omega) HS.out) rfl rfl ?_
   rintro _ w5 ⟨rfl, hs1⟩
   refine ⟨_, rfl, ?_⟩; replace HS := Bx.mk hs1;clear hs1 HF a;intro a HF
   try dsimp only [List.eraseIdx] at HS
   refine wl_ne ?_
   refine wp_sr ?_
   refine zm HF ?_; clear HF a; intro a HF
   replace HS : Bx (St w0 ([bldA b1 (((recB (xs.take k)).data.toList ++ (decB ((xs.getD k ByteArray.empty).size)).data.toList) ++ [(58 : UInt8)])]) _) := ⟨(HS.out).pick 0 rfl⟩
   refine wl_call rfl HF rfl (enter_of Tryz.func153 (by kernel_rfl) rfl) (args := #[.pointer (some ⟨b1, 0, none⟩), .string (xs.getD k ByteArray.empty)]) rfl (writeS_any w0 _ b1 (((recB (xs.take k)).data.toList ++ (decB ((xs.getD k ByteArray.empty).size)).data.toList) ++ [(58 : UInt8)]) (xs.getD k ByteArray.empty) (by simp only [List.length_append, List.length_cons, List.length_nil, ← size_list]; omega) HS.out) rfl rfl ?_
   rintro _ w6 ⟨rfl, hs1⟩
   refine ⟨_, rfl, ?_⟩; replace HS := Bx.mk hs1;clear hs1 HF a;intro a HF
   try dsimp only [List.eraseIdx] at HS
   refine wl_ne ?_
   refine wp_sr ?_
   refine wl_callB rfl HF rfl (enter_of Tryz.func155 (by kernel_rfl) rfl) (args := #[.pointer (some ⟨b1, 0, none⟩)]) rfl (v := .int .i64 (((((recB (xs.take k)).data.toList ++ (decB ((xs.getD k ByteArray.empty).size)).data.toList) ++ [(58 : UInt8)]) ++ (xs.getD k ByteArray.empty).data.toList).length : Int)) (bldLen_any w0 _ b1 ((((recB (xs.take k)).data.toList ++ (decB ((xs.getD k ByteArray.empty).size)).data.toList) ++ [(58 : UInt8)]) ++ (xs.getD k ByteArray.empty).data.toList) HS.out) rfl rfl HS.out ?_; clear HF HS a; intro w7 a HS HF; replace HS := Bx.mk HS
   refine zy HF (yl_gtrI rfl (HF.ev rfl) (HF.ev rfl)) ?_; clear HF a; intro a HF
   refine wl_ne ?_
   refine HF.cases 24 rfl (fun cc3 _ => ?_) fun cc3 _ => ?_
   ·clear HF;rename_i HF
    have dcc3 := of_decide_eq_true cc3
    refine wc_true HF rfl ?_
    refine wp_sr ?_
    refine za HF ?_; clear HF a; intro a HF
    refine za HF ?_; clear HF a; intro a HF
    refine wl_ne ?_
    refine wp_ret ?_
    refine ex_block_ret ?_
    refine ex_then_ret ?_
    refine ex_then_ret ?_
    refine ex_block_ret ?_
    refine ex_then_ret ?_
    refine bp_ret2 HF Tryz.results124 (HF.res rfl) (HF.res rfl) ?_
    have hgt : ¬ (recB (xs.take (k + 1))).size ≤ 2048 := by rw [recB_step xs (by omega), size_list, list_append, list_append, list_append]; exact gt_of_cmp cc3
    exact ⟨by rw [fieldsPut_big hgt]; rfl, HS.out.bel⟩
   ·clear HF;rename_i HF
    have dcc3 := of_decide_eq_false cc3
    refine wc_false HF rfl ?_
    refine wp_skip ?_
    refine ex_block ?_
    refine ex_then ?_
    refine wp_region_lit ?_
    refine zy HF (yl_addI rfl (HF.ev rfl) (HF.ev rfl) (i64w (by omega))) ?_; clear HF a; intro a HF
    refine zm HF ?_; clear HF a; intro a HF
    refine wl_ne ?_
    replace HS : Bx (St w0 [bldA b1 (recB (xs.take (k + 1))).data.toList] _) := ⟨by rw [recB_step xs (by omega), list_append, list_append, list_append]; exact HS.out⟩
    have hle : (recB (xs.take (k + 1))).size ≤ 2048 := by rw [recB_step xs (by omega), size_list, list_append, list_append, list_append]; exact le_of_cmp cc3
    exact ⟨k + 1, ⟨⟨by omega, hle⟩, HF.less _ ⟨rfl, rfl, rfl, rfl, trivial⟩, HS.out⟩, (by omega)⟩
  ·clear HF;rename_i HF
   have dcc2 := of_decide_eq_false cc2
   refine wc_false HF rfl ?_
   refine wp_exit ?_
   refine ex_then_exit ?_
   refine ex_then_exit ?_
   refine ex_block_hit ?_
   refine ex_then ?_
   refine wp_sr ?_
   replace HS : Bx (St w0 ([bldA b1 (recB (xs.take k)).data.toList]) _) := ⟨(HS.out).pick 0 rfl⟩
   refine wl_call rfl HF rfl (enter_of Tryz.func156 (by kernel_rfl) rfl) (args := #[.pointer (some ⟨b1, 0, none⟩)]) rfl (bldStr_any w0 _ b1 ((recB (xs.take k)).data.toList) HS.out) rfl rfl ?_
   rintro _ w8 ⟨rfl, hs1⟩
   refine ⟨_, rfl, ?_⟩; replace HS := Bx.mk hs1;clear hs1 HF a;intro a HF
   try dsimp only [List.eraseIdx] at HS
   refine za HF ?_; clear HF a; intro a HF
   refine za HF ?_; clear HF a; intro a HF
   refine wl_ne ?_
   refine wp_ret ?_
   refine bp_ret2 HF Tryz.results124 (HF.res rfl) (HF.res rfl) ?_
   obtain rfl : k = xs.length := by omega
   rw [List.take_length] at hr
   exact ⟨by rw [fieldsPut_yes (by omega) hr]; simp [List.take_length], HS.out.bel⟩

theorem l6Dec_any (n : Nat) (hn : n ≤ 9223372036854775807) (w0 : World) : Calls Tryz.prog 65 #[.int .i64 (n : Int)] w0 fun e w' => e = .returned (.string (decB n)) ∧ Below w0.heap.size w0 w' := by
 induction n using Nat.strongRecOn generalizing w0
 rename_i n ih
 have hd := decB_20 (n := n / 10) (by omega)
 have HS := Bx.mk (St.start w0)
 refine wc_enter Tryz.func65 rfl Tryz.ntmps65 [(0, .int .i64 (n : Int))] ⟨rfl, trivial⟩ rfl ?_; intro a HF
 refine wp_sr ?_
 refine za HF ?_; clear HF a; intro a HF
 refine wl_ne ?_
 refine wp_seq ?_
 refine wp_sr ?_
 refine zm HF ?_; clear HF a; intro a HF
 refine zy HF (yl_lssI rfl (HF.ev rfl) (HF.ev rfl)) ?_; clear HF a; intro a HF
 refine wl_ne ?_
 refine HF.cases 4 rfl (fun cc1 _ => ?_) fun cc1 _ => ?_
 ·clear HF;rename_i HF
  have dcc1 := of_decide_eq_true cc1
  omega
 ·clear HF;rename_i HF
  have dcc1 := of_decide_eq_false cc1
  refine wc_false HF rfl ?_
  refine wp_skip ?_
  refine ex_then ?_
  refine wp_seq ?_
  refine wp_sr ?_
  refine zm HF ?_; clear HF a; intro a HF
  refine zy HF (yl_lssI rfl (HF.ev rfl) (HF.ev rfl)) ?_; clear HF a; intro a HF
  refine wl_ne ?_
  refine HF.cases 6 rfl (fun cc2 _ => ?_) fun cc2 _ => ?_
  ·clear HF;rename_i HF
   have dcc2 := of_decide_eq_true cc2
   omega
  ·clear HF;rename_i HF
   have dcc2 := of_decide_eq_false cc2
   refine wc_false HF rfl ?_
   refine wp_skip ?_
   refine ex_then ?_
   refine wp_seq ?_
   refine wp_sr ?_
   refine zm HF ?_; clear HF a; intro a HF
   refine zy HF (yl_lssI rfl (HF.ev rfl) (HF.ev rfl)) ?_; clear HF a; intro a HF
   refine wl_ne ?_
   refine HF.cases 12 rfl (fun cc3 _ => ?_) fun cc3 _ => ?_
   ·clear HF;rename_i HF
    have dcc3 := of_decide_eq_true cc3
    refine wc_true HF rfl ?_
    refine wp_sr ?_
    refine zm HF ?_; clear HF a; intro a HF
    refine zy HF (yl_addI rfl (HF.ev rfl) (HF.ev rfl) (i64w (by omega))) ?_; clear HF a; intro a HF
    refine zy HF (yl_toU8 (b := UInt8.ofNat ((48 : Int) + (n : Int)).toNat) rfl (HF.ev rfl) (by omega) rfl (by kernel_rfl) (by kernel_rfl)) ?_; clear HF a; intro a HF
    refine wl_buildS (enc := encB) (e := 5) (size := 1) rfl HF rfl rfl rfl (ps := [(0, .int .u8 ((UInt8.ofNat ((48 : Int) + (n : Int)).toNat).toNat : Int))]) rfl (cells := [.int .u8 ((UInt8.ofNat ((48 : Int) + (n : Int)).toNat).toNat : Int)]) (by kernel_rfl) [(UInt8.ofNat ((48 : Int) + (n : Int)).toNat)] rfl rfl (by unfold maxLen; omega) rfl HS.out ?_; clear HF HS a; intro b1 a w1 HF HS; replace HS := Bx.mk HS
    refine zy HF (yl_convBS (e1 := 5) rfl (HF.ev rfl) (by kernel_rfl) (by kernel_rfl) (by kernel_rfl) (xs := [(UInt8.ofNat ((48 : Int) + (n : Int)).toNat)]) (St.rdN HS.out encB_len 0 rfl)) ?_; clear HF a; intro a HF
    refine za HF ?_; clear HF a; intro a HF
    refine wl_ne ?_
    refine wp_ret ?_
    refine ex_then_ret ?_
    refine bp_ret1 HF Tryz.results65 (HF.res rfl) ?_
    exact ⟨by rw [decB_small (by omega), show UInt8.ofNat (48 + (n : Int)).toNat = UInt8.ofNat (48 + n) from congrArg UInt8.ofNat (by omega)], HS.out.bel⟩
   ·clear HF;rename_i HF
    have dcc3 := of_decide_eq_false cc3
    refine wc_false HF rfl ?_
    refine wp_skip ?_
    refine ex_then ?_
    refine wp_seq ?_
    refine wr_heldS (s := []) (by kernel_rfl) (St.drew (HS.out)) ?_
    have HS2 := Bx.mk HS.out.drew; replace HS := Bx.mk (show St w0 ([]) _ from HS.out.drew)
    generalize World.drew _ = w2 at HS HS2 ⊢
    refine zh 0 rfl HF (fun _ HS => (yl_move rfl (HF.ev rfl))) HS.out ?_; clear HF a; intro a HF
    refine zh 1 rfl HF (fun _ HS => (yl_quoI rfl (HF.ev rfl) (HF.ev rfl) (by omega) (quo_pos (by omega) (by omega) (by omega)))) HS.out ?_; clear HF a; intro a HF
    refine zh 3 rfl HF (fun _ HS => (yl_move rfl (HF.ev rfl))) HS.out ?_; clear HF a; intro a HF
    refine zh 4 rfl HF (fun _ HS => (yl_remI rfl (HF.ev rfl) (HF.ev rfl) (by omega) (rem_pos (by omega) (by omega)))) HS.out ?_; clear HF a; intro a HF
    refine zh 5 rfl HF (fun _ HS => (yl_addI rfl (HF.ev rfl) (HF.ev rfl) (i64w (by omega)))) HS.out ?_; clear HF a; intro a HF
    refine zh 6 rfl HF (fun _ HS => (yl_toU8 (b := UInt8.ofNat ((48 : Int) + ((n : Int) % 10)).toNat) rfl (HF.ev rfl) (by omega) rfl (by kernel_rfl) (by kernel_rfl))) HS.out ?_; clear HF a; intro a HF
    refine wh_two 2 7 (by kernel_rfl) ?_ ?_
    ·skip
     refine wo_callB rfl rfl HF rfl (enter_of Tryz.func65 (by kernel_rfl) rfl) (args := #[.int .i64 ((n : Int) / 10)]) rfl (v := .string (decB (n / 10))) (ih (n / 10) (by omega) (by omega) _) rfl rfl ?_
     intro w3 hb; replace HS := Bx.mk (HS.out.later hb); replace HS2 := Bx.mk (HS2.out.later hb);clear hb HF a;intro a HF; refine ⟨HS.out, ?_⟩
     refine wh_one 7 (by kernel_rfl) ?_
     refine wo_buildS (enc := encB) (e := 5) (size := 1) rfl rfl HF rfl rfl rfl (ps := [(0, .int .u8 ((UInt8.ofNat ((48 : Int) + ((n : Int) % 10)).toNat).toNat : Int))]) rfl (cells := [.int .u8 ((UInt8.ofNat ((48 : Int) + ((n : Int) % 10)).toNat).toNat : Int)]) (by kernel_rfl) [(UInt8.ofNat ((48 : Int) + ((n : Int) % 10)).toNat)] rfl rfl (by unfold maxLen; omega) rfl HS2.out HS.out ?_; clear HF HS HS2 a; intro b2 a w5 HF HS2 HS; replace HS := Bx.mk HS; replace HS2 := Bx.mk HS2; refine ⟨HS.out, ?_⟩
     refine wh_one 8 (by kernel_rfl) ?_
     refine wo_y rfl rfl HF rfl rfl (yl_convBS (e1 := 5) rfl (HF.ev rfl) (by kernel_rfl) (by kernel_rfl) (by kernel_rfl) (xs := [(UInt8.ofNat ((48 : Int) + ((n : Int) % 10)).toNat)]) (St.rdN HS2.out encB_len 0 rfl)) ?_; clear HF a; intro a HF; refine ⟨HS.out, ?_⟩
     refine zh 9 rfl HF (fun _ HS => (yl_addS rfl (HF.ev rfl) (HF.ev rfl) (by (try simp only [size1, app_size]); omega))) HS.out ?_; clear HF a; intro a HF
     refine zh 10 rfl HF (fun _ HS => (yl_assign rfl (HF.ev rfl))) HS.out ?_; clear HF a; intro a HF
     refine wh_done (by kernel_rfl) ?_
     replace HS := HS2; clear HS2
     refine ex_then ?_
     refine wp_ret ?_
     refine bp_ret1 HF Tryz.results65 (HF.res rfl) ?_
     exact ⟨by rw [decB_big (n := n) (by omega), show UInt8.ofNat (48 + (n : Int) % (10 : Int)).toNat = UInt8.ofNat (48 + n % 10) from congrArg UInt8.ofNat (by omega)], HS.out.bel⟩
    ·skip
     refine wo_buildS (enc := encB) (e := 5) (size := 1) rfl rfl HF rfl rfl rfl (ps := [(0, .int .u8 ((UInt8.ofNat ((48 : Int) + ((n : Int) % 10)).toNat).toNat : Int))]) rfl (cells := [.int .u8 ((UInt8.ofNat ((48 : Int) + ((n : Int) % 10)).toNat).toNat : Int)]) (by kernel_rfl) [(UInt8.ofNat ((48 : Int) + ((n : Int) % 10)).toNat)] rfl rfl (by unfold maxLen; omega) rfl HS2.out HS.out ?_; clear HF HS HS2 a; intro b3 a w8 HF HS2 HS; replace HS := Bx.mk HS; replace HS2 := Bx.mk HS2; refine ⟨HS.out, ?_⟩
     refine wh_two 2 8 (by kernel_rfl) ?_ ?_
     ·skip
      refine wo_callB rfl rfl HF rfl (enter_of Tryz.func65 (by kernel_rfl) rfl) (args := #[.int .i64 ((n : Int) / 10)]) rfl (v := .string (decB (n / 10))) (ih (n / 10) (by omega) (by omega) _) rfl rfl ?_
      intro w9 hb; replace HS := Bx.mk (HS.out.later hb); replace HS2 := Bx.mk (HS2.out.later hb);clear hb HF a;intro a HF; refine ⟨HS.out, ?_⟩
      refine wh_one 8 (by kernel_rfl) ?_
      refine wo_y rfl rfl HF rfl rfl (yl_convBS (e1 := 5) rfl (HF.ev rfl) (by kernel_rfl) (by kernel_rfl) (by kernel_rfl) (xs := [(UInt8.ofNat ((48 : Int) + ((n : Int) % 10)).toNat)]) (St.rdN HS2.out encB_len 0 rfl)) ?_; clear HF a; intro a HF; refine ⟨HS.out, ?_⟩
      refine zh 9 rfl HF (fun _ HS => (yl_addS rfl (HF.ev rfl) (HF.ev rfl) (by (try simp only [size1, app_size]); omega))) HS.out ?_; clear HF a; intro a HF
      refine zh 10 rfl HF (fun _ HS => (yl_assign rfl (HF.ev rfl))) HS.out ?_; clear HF a; intro a HF
      refine wh_done (by kernel_rfl) ?_
      replace HS := HS2; clear HS2
      refine ex_then ?_
      refine wp_ret ?_
      refine bp_ret1 HF Tryz.results65 (HF.res rfl) ?_
      exact ⟨by rw [decB_big (n := n) (by omega), show UInt8.ofNat (48 + (n : Int) % (10 : Int)).toNat = UInt8.ofNat (48 + n % 10) from congrArg UInt8.ofNat (by omega)], HS.out.bel⟩
     ·skip
      refine wo_y rfl rfl HF rfl rfl (yl_convBS (e1 := 5) rfl (HF.ev rfl) (by kernel_rfl) (by kernel_rfl) (by kernel_rfl) (xs := [(UInt8.ofNat ((48 : Int) + ((n : Int) % 10)).toNat)]) (St.rdN HS2.out encB_len 0 rfl)) ?_; clear HF a; intro a HF; refine ⟨HS.out, ?_⟩
      refine wh_one 2 (by kernel_rfl) ?_
      refine wo_callB rfl rfl HF rfl (enter_of Tryz.func65 (by kernel_rfl) rfl) (args := #[.int .i64 ((n : Int) / 10)]) rfl (v := .string (decB (n / 10))) (ih (n / 10) (by omega) (by omega) _) rfl rfl ?_
      intro w12 hb; replace HS := Bx.mk (HS.out.later hb); replace HS2 := Bx.mk (HS2.out.later hb);clear hb HF a;intro a HF; refine ⟨HS.out, ?_⟩
      refine zh 9 rfl HF (fun _ HS => (yl_addS rfl (HF.ev rfl) (HF.ev rfl) (by (try simp only [size1, app_size]); omega))) HS.out ?_; clear HF a; intro a HF
      refine zh 10 rfl HF (fun _ HS => (yl_assign rfl (HF.ev rfl))) HS.out ?_; clear HF a; intro a HF
      refine wh_done (by kernel_rfl) ?_
      replace HS := HS2; clear HS2
      refine ex_then ?_
      refine wp_ret ?_
      refine bp_ret1 HF Tryz.results65 (HF.res rfl) ?_
      exact ⟨by rw [decB_big (n := n) (by omega), show UInt8.ofNat (48 + (n : Int) % (10 : Int)).toNat = UInt8.ofNat (48 + n % 10) from congrArg UInt8.ofNat (by omega)], HS.out.bel⟩

theorem size_colon : (⟨#[58]⟩ : ByteArray).size = 1 := rfl
theorem fieldsPutS_any (a0 : Option Addr) (n c0 : Nat) (xs : List ByteArray) (w0 : World) (hl : xs.length ≤ 1048576) (hx : szs xs) (hR : Rd encS 1 w0 a0 n xs) : Calls Tryz.prog 67 #[.slice a0 n c0] w0 fun e w' => e = .returned (.tuple #[.string (fieldsPut xs).1, .bool (fieldsPut xs).2]) ∧ Below w0.heap.size w0 w' := by
 obtain rfl := hR.len
 obtain ⟨g0, o0, r0⟩ := hR.opn; have R0 := Bx.mk r0; clear r0 hR
 have HS := Bx.mk (St.start w0)
 refine wc_enter Tryz.func67 rfl Tryz.ntmps67 [(0, .slice a0 xs.length c0)] ⟨rfl, trivial⟩ rfl ?_; intro a HF
 refine wp_sr ?_
 refine za HF ?_; clear HF a; intro a HF
 refine za HF ?_; clear HF a; intro a HF
 refine wl_ne ?_
 refine wp_sr ?_
 refine za HF ?_; clear HF a; intro a HF
 refine wl_ne ?_
 refine wp_seq ?_
 refine wp_sr ?_
 refine za HF ?_; clear HF a; intro a HF
 refine wl_ne ?_
 refine wp_block ?_
 refine wc_loop (ι := Nat) (fun k a w => (k ≤ xs.length ∧ (recB (xs.take k)).size ≤ 2048 ∧ (¬ xs.length ≤ 60 → k = 0)) ∧ Fr 44 a [(0, .slice a0 xs.length c0), (4, .string (recB (xs.take k))), (5, .int .i64 (k : Int))] ∧ St w0 ([]) w) (fun k => xs.length - k) 0 ⟨⟨Nat.zero_le _, by simp [recB], fun _ => rfl⟩, HF.less _ ⟨rfl, rfl, rfl, trivial⟩, HS.out⟩ ?_
 clear HF HS; clear a
 rintro k a w1 ⟨⟨hk, hr, h0k⟩, HF, HS⟩
 replace HS := Bx.mk HS
 have hxk := hx k; have hdec := decB_20 (n := (xs.getD k ByteArray.empty).size) (by omega)
 refine wp_seq ?_
 refine wp_sr ?_
 refine zm HF ?_; clear HF a; intro a HF
 refine zm HF ?_; clear HF a; intro a HF
 refine zy HF (yl_lenL (e := 9) (size := 1) rfl (HF.ev rfl) (by kernel_rfl)) ?_; clear HF a; intro a HF
 refine zy HF (yl_lssI rfl (HF.ev rfl) (HF.ev rfl)) ?_; clear HF a; intro a HF
 refine zm HF ?_; clear HF a; intro a HF
 refine HF.cases 10 rfl (fun cc1 _ => ?_) fun cc1 _ => ?_
 ·clear HF;rename_i HF
  have dcc1 := of_decide_eq_true cc1
  refine zg HF (yl_move rfl (HF.ev rfl)) ?_; clear HF a; intro a HF
  refine zg HF (yl_lenL (e := 9) (size := 1) rfl (HF.ev rfl) (by kernel_rfl)) ?_; clear HF a; intro a HF
  refine zg HF (yl_leqI rfl (HF.ev rfl) (HF.ev rfl)) ?_; clear HF a; intro a HF
  refine zy HF (yl_pick_t rfl (HF.ev rfl) (HF.ev rfl)) ?_; clear HF a; intro a HF
  refine wl_ne ?_
  refine HF.cases 14 rfl (fun cc2 _ => ?_) fun cc2 _ => ?_
  ·clear HF;rename_i HF
   have dcc2 := of_decide_eq_true cc2
   refine wc_true HF rfl ?_
   refine wp_skip ?_
   refine ex_then ?_
   refine wp_seq ?_
   refine wp_block ?_
   refine wp_seq ?_
   refine wp_sr ?_
   refine zm HF ?_; clear HF a; intro a HF
   refine zm HF ?_; clear HF a; intro a HF
   refine zy HF (yl_indexAddrR (e := 9) (i := k) (size := 1) rfl (HF.ev rfl) (HF.ev rfl) (by kernel_rfl) rfl (by omega) (R0.out.ao k (by omega))) ?_; clear HF a; intro a HF
   refine zy HF (ylo (v := .string (xs.getD k ByteArray.empty)) rfl (HF.ev rfl) (R0.out.elem1 HS.out (get_getD (xs := xs) (j := k) (d := ByteArray.empty) (by omega)) rfl)) ?_; clear HF a; intro a HF
   refine zy HF (yl_lenS rfl (HF.ev rfl) (by kernel_rfl)) ?_; clear HF a; intro a HF
   refine zy HF (yl_gtrI rfl (HF.ev rfl) (HF.ev rfl)) ?_; clear HF a; intro a HF
   refine wl_ne ?_
   refine HF.cases 22 rfl (fun cc3 _ => ?_) fun cc3 _ => ?_
   ·clear HF;rename_i HF
    have dcc3 := of_decide_eq_true cc3
    refine wc_true HF rfl ?_
    refine wp_sr ?_
    refine za HF ?_; clear HF a; intro a HF
    refine za HF ?_; clear HF a; intro a HF
    refine wl_ne ?_
    refine wp_ret ?_
    refine ex_then_ret ?_
    refine ex_block_ret ?_
    refine ex_then_ret ?_
    refine ex_then_ret ?_
    refine ex_block_ret ?_
    refine ex_then_ret ?_
    refine bp_ret2 HF Tryz.results67 (HF.res rfl) (HF.res rfl) ?_
    exact ⟨by rw [fieldsPut_elem (k := k) (by omega) (by omega)]; rfl, HS.out.bel⟩
   ·clear HF;rename_i HF
    have dcc3 := of_decide_eq_false cc3
    refine wc_false HF rfl ?_
    refine wp_skip ?_
    refine ex_then ?_
    refine wp_seq ?_
    refine wr_quiet (by kernel_rfl) (by kernel_rfl) HS.out ?_
    refine zq HF (fun _ HS => (yl_move rfl (HF.ev rfl))) ?_; clear HF a; intro a HF
    refine zq HF (fun _ HS => (yl_move rfl (HF.ev rfl))) ?_; clear HF a; intro a HF
    refine zq HF (fun _ HS => (yl_move rfl (HF.ev rfl))) ?_; clear HF a; intro a HF
    refine zq HF (fun _ HS => (yl_indexAddrR (e := 9) (i := k) (size := 1) rfl (HF.ev rfl) (HF.ev rfl) (by kernel_rfl) rfl (by omega) (R0.out.ao k (by omega)))) ?_; clear HF a; intro a HF
    refine zq HF (fun _ HS => (ylo (v := .string (xs.getD k ByteArray.empty)) rfl (HF.ev rfl) (R0.out.elem1 HS (get_getD (xs := xs) (j := k) (d := ByteArray.empty) (by omega)) rfl))) ?_; clear HF a; intro a HF
    refine zq HF (fun _ HS => (yl_lenS rfl (HF.ev rfl) (by kernel_rfl))) ?_; clear HF a; intro a HF
    refine wq_call rfl HF rfl (enter_of Tryz.func65 (by kernel_rfl) rfl) (args := #[.int .i64 ((xs.getD k ByteArray.empty).size : Int)]) rfl (v := .string (decB ((xs.getD k ByteArray.empty).size))) (fun _ HS => l6Dec_any ((xs.getD k ByteArray.empty).size) (by omega) _) rfl rfl ?_; clear HF a; intro a HF
    refine zq HF (fun _ HS => (yl_addS rfl (HF.ev rfl) (HF.ev rfl) (by (try simp only [size_colon, app_size]); omega))) ?_; clear HF a; intro a HF
    refine zq HF (fun _ HS => (yl_addS rfl (HF.ev rfl) (HF.ev rfl) (by (try simp only [size_colon, app_size]); omega))) ?_; clear HF a; intro a HF
    refine zq HF (fun _ HS => (yl_move rfl (HF.ev rfl))) ?_; clear HF a; intro a HF
    refine zq HF (fun _ HS => (yl_move rfl (HF.ev rfl))) ?_; clear HF a; intro a HF
    refine zq HF (fun _ HS => (yl_indexAddrR (e := 9) (i := k) (size := 1) rfl (HF.ev rfl) (HF.ev rfl) (by kernel_rfl) rfl (by omega) (R0.out.ao k (by omega)))) ?_; clear HF a; intro a HF
    refine zq HF (fun _ HS => (ylo (v := .string (xs.getD k ByteArray.empty)) rfl (HF.ev rfl) (R0.out.elem1 HS (get_getD (xs := xs) (j := k) (d := ByteArray.empty) (by omega)) rfl))) ?_; clear HF a; intro a HF
    refine zq HF (fun _ HS => (yl_addS rfl (HF.ev rfl) (HF.ev rfl) (by (try simp only [size_colon, app_size]); omega))) ?_; clear HF a; intro a HF
    refine zq HF (fun _ HS => (yl_assign rfl (HF.ev rfl))) ?_; clear HF a; intro a HF
    refine wpQuiet_nil ?_; intro w2 HS; replace HS := Bx.mk HS
    refine ex_then ?_
    refine wp_sr ?_
    refine zm HF ?_; clear HF a; intro a HF
    refine zy HF (yl_lenS rfl (HF.ev rfl) (by kernel_rfl)) ?_; clear HF a; intro a HF
    refine zy HF (yl_gtrI rfl (HF.ev rfl) (HF.ev rfl)) ?_; clear HF a; intro a HF
    refine wl_ne ?_
    refine HF.cases 39 rfl (fun cc4 _ => ?_) fun cc4 _ => ?_
    ·clear HF;rename_i HF
     have dcc4 := of_decide_eq_true cc4
     refine wc_true HF rfl ?_
     refine wp_sr ?_
     refine za HF ?_; clear HF a; intro a HF
     refine za HF ?_; clear HF a; intro a HF
     refine wl_ne ?_
     refine wp_ret ?_
     refine ex_block_ret ?_
     refine ex_then_ret ?_
     refine ex_then_ret ?_
     refine ex_block_ret ?_
     refine ex_then_ret ?_
     refine bp_ret2 HF Tryz.results67 (HF.res rfl) (HF.res rfl) ?_
     have hgt : ¬ (recB (xs.take (k + 1))).size ≤ 2048 := by rw [recB_step xs (by omega)]; exact gt_of_cmp cc4
     exact ⟨by rw [fieldsPut_big hgt]; rfl, HS.out.bel⟩
    ·clear HF;rename_i HF
     have dcc4 := of_decide_eq_false cc4
     refine wc_false HF rfl ?_
     refine wp_skip ?_
     refine ex_block ?_
     refine ex_then ?_
     refine wp_region_lit ?_
     refine zm HF ?_; clear HF a; intro a HF
     refine zy HF (yl_addI rfl (HF.ev rfl) (HF.ev rfl) (i64w (by omega))) ?_; clear HF a; intro a HF
     refine za HF ?_; clear HF a; intro a HF
     refine wl_ne ?_
     have hst := recB_step xs (k := k) (by omega)
     have hle : (recB (xs.take (k + 1))).size ≤ 2048 := by rw [hst]; exact le_of_cmp cc4
     exact ⟨k + 1, ⟨⟨by omega, hle, fun h => absurd h (by omega)⟩, HF.less _ ⟨rfl, (congrArg (fun z => some (Value.string z)) hst.symm), rfl, trivial⟩, HS.out⟩, (by omega)⟩
  ·clear HF;rename_i HF
   have dcc2 := of_decide_eq_false cc2
   refine wc_false HF rfl ?_
   refine wp_exit ?_
   refine ex_then_exit ?_
   refine ex_then_exit ?_
   refine ex_block_hit ?_
   refine ex_then ?_
   refine wp_sr ?_
   refine zm HF ?_; clear HF a; intro a HF
   refine zm HF ?_; clear HF a; intro a HF
   refine zy HF (yl_lenL (e := 9) (size := 1) rfl (HF.ev rfl) (by kernel_rfl)) ?_; clear HF a; intro a HF
   refine zy HF (yl_leqI rfl (HF.ev rfl) (HF.ev rfl)) ?_; clear HF a; intro a HF
   refine za HF ?_; clear HF a; intro a HF
   refine za HF ?_; clear HF a; intro a HF
   refine wl_ne ?_
   refine wp_ret ?_
   refine bp_ret2 HF Tryz.results67 (HF.res rfl) (HF.res rfl) ?_
   by_cases h60 : xs.length ≤ 60
   ·obtain rfl : k = xs.length := by omega
    rw [List.take_length] at hr
    exact ⟨by rw [fieldsPut_yes h60 hr, List.take_length, show ((decide ((xs.length : Int) ≤ 60))) = true from decide_eq_true (by omega)], HS.out.bel⟩
   ·obtain rfl : k = 0 := h0k (by omega)
    exact ⟨by rw [fieldsPut_long h60, show ((decide ((xs.length : Int) ≤ 60))) = false from decide_eq_false (by omega)]; rfl, HS.out.bel⟩
 ·clear HF;rename_i HF
  have dcc1 := of_decide_eq_false cc1
  refine zk HF ?_; clear HF a; intro a HF
  refine zk HF ?_; clear HF a; intro a HF
  refine zk HF ?_; clear HF a; intro a HF
  refine zy HF (yl_pick_f rfl (HF.ev rfl) (HF.ev rfl)) ?_; clear HF a; intro a HF
  refine wl_ne ?_
  refine wc_false HF rfl ?_
  refine wp_exit ?_
  refine ex_then_exit ?_
  refine ex_then_exit ?_
  refine ex_block_hit ?_
  refine ex_then ?_
  refine wp_sr ?_
  refine zm HF ?_; clear HF a; intro a HF
  refine zm HF ?_; clear HF a; intro a HF
  refine zy HF (yl_lenL (e := 9) (size := 1) rfl (HF.ev rfl) (by kernel_rfl)) ?_; clear HF a; intro a HF
  refine zy HF (yl_leqI rfl (HF.ev rfl) (HF.ev rfl)) ?_; clear HF a; intro a HF
  refine za HF ?_; clear HF a; intro a HF
  refine za HF ?_; clear HF a; intro a HF
  refine wl_ne ?_
  refine wp_ret ?_
  refine bp_ret2 HF Tryz.results67 (HF.res rfl) (HF.res rfl) ?_
  by_cases h60 : xs.length ≤ 60
  ·obtain rfl : k = xs.length := by omega
   rw [List.take_length] at hr
   exact ⟨by rw [fieldsPut_yes h60 hr, List.take_length, show ((decide ((xs.length : Int) ≤ 60))) = true from decide_eq_true (by omega)], HS.out.bel⟩
  ·obtain rfl : k = 0 := h0k (by omega)
   exact ⟨by rw [fieldsPut_long h60, show ((decide ((xs.length : Int) ≤ 60))) = false from decide_eq_false (by omega)]; rfl, HS.out.bel⟩

end Go.Proofs.YtoaopmkbfifhaaaGreatDoor

/- Reading a set of disks, by the reference. -/
namespace Go.Proofs.YtoaopmkbfifhaaaGreatDoor
set_option linter.unusedVariables false
set_option linter.unusedSimpArgs false
set_option maxHeartbeats 1000000
set_option maxRecDepth 100000
open Go.RowKit

def PtrD.fits (p : PtrD) (t : ByteArray) : Bool := (bif p.ok then (bif !p.hole then (bif (p.fSize == (t.size : Int)) then (p.fSum == (sumOf t)) else false) else false) else false)

/-- A text, so many times. -/
def manyB (s : ByteArray) : Nat → ByteArray
  | 0 => ByteArray.empty
  | n + 1 => s ++ manyB s n
theorem manyB_size (s : ByteArray) (n : Nat) : (manyB s n).size = n * s.size := by
  induction n with
  | zero => simp [manyB]
  | succ n ih => unfold manyB; rw [ByteArray.size_append, ih, Nat.succ_mul]; omega
theorem manyB_two (s : ByteArray) (n : Nat) : manyB (s ++ s) n = manyB s (2 * n) := by
  induction n with
  | zero => rfl
  | succ n ih =>
    rw [show 2 * (n + 1) = 2 * n + 1 + 1 by omega]
    unfold manyB
    rw [ih]
    conv => rhs; rw [show manyB s (2 * n + 1) = s ++ manyB s (2 * n) from rfl]
    apply ba_ext
    simp [list_append]
theorem many_odd (o s : ByteArray) (n : Nat) (h : n % 2 = 1) : o ++ manyB s n = (o ++ s) ++ manyB (s ++ s) (n / 2) := by
  rw [manyB_two]
  obtain ⟨m, rfl⟩ : ∃ m, n = 2 * m + 1 := ⟨n / 2, by omega⟩
  rw [show (2 * m + 1) / 2 = m by omega]
  conv => lhs; rw [show manyB s (2 * m + 1) = s ++ manyB s (2 * m) from rfl]
  apply ba_ext
  simp [list_append]
theorem many_even (o s : ByteArray) (n : Nat) (h : ¬ n % 2 = 1) : o ++ manyB s n = o ++ manyB (s ++ s) (n / 2) := by
  rw [manyB_two, show 2 * (n / 2) = n by omega]

theorem l6Many_any (s : ByteArray) (n : Nat) (w0 : World) (hn : n ≤ 1000000) (hs : n * s.size ≤ 1000000000) (hs2 : s.size ≤ 1000000000) : Calls Tryz.prog 139 #[.string s, .int .i64 (n : Int)] w0 fun e w' => e = .returned (.string (manyB s n)) ∧ Below w0.heap.size w0 w' := by
 have HS := Bx.mk (St.start w0)
 refine wc_enter Tryz.func139 rfl Tryz.ntmps139 [(0, .string s), (1, .int .i64 (n : Int))] ⟨rfl, rfl, trivial⟩ rfl ?_; intro a HF
 refine wp_sr ?_
 refine za HF ?_; clear HF a; intro a HF
 refine wl_ne ?_
 refine wp_sr ?_
 refine za HF ?_; clear HF a; intro a HF
 refine wl_ne ?_
 refine wp_seq ?_
 refine wp_block ?_
 refine wc_loop (ι := Nat) (fun m a w => ∃ (t o : ByteArray), (m ≤ n ∧ o ++ manyB t m = manyB s n ∧ o.size + m * t.size = n * s.size ∧ t.size ≤ 2 * (n * s.size) + s.size) ∧ Fr 20 a [(0, .string t), (1, .int .i64 (m : Int)), (5, .string o)] ∧ St w0 ([]) w) (fun m => m) n ⟨s, ByteArray.empty, ⟨Nat.le_refl _, rfl, by simp, by omega⟩, HF.less _ ⟨rfl, rfl, rfl, trivial⟩, HS.out⟩ ?_
 clear HF HS; clear a
 rintro m a w1 ⟨t, o, ⟨hm, hq, hz, ht⟩, HF, HS⟩
 replace HS := Bx.mk HS
 refine wp_seq ?_
 refine wp_sr ?_
 refine zm HF ?_; clear HF a; intro a HF
 refine zy HF (yl_gtrI rfl (HF.ev rfl) (HF.ev rfl)) ?_; clear HF a; intro a HF
 refine wl_ne ?_
 refine HF.cases 7 rfl (fun cc1 _ => ?_) fun cc1 _ => ?_
 ·clear HF;rename_i HF
  have dcc1 := of_decide_eq_true cc1
  refine wc_true HF rfl ?_
  refine wp_skip ?_
  refine ex_then ?_
  refine wp_block ?_
  refine wp_seq ?_
  refine wp_seq ?_
  have hm1 : 1 * t.size ≤ m * t.size := Nat.mul_le_mul_right _ (by omega)
  refine wp_region_lit ?_
  refine zm HF ?_; clear HF a; intro a HF
  refine zy HF (yl_remI rfl (HF.ev rfl) (HF.ev rfl) (by omega) (rem_pos (by omega) (by omega))) ?_; clear HF a; intro a HF
  refine zy HF (yl_eqlI rfl (HF.ev rfl) (HF.ev rfl)) ?_; clear HF a; intro a HF
  refine wl_ne ?_
  refine HF.cases 10 rfl (fun cc2 _ => ?_) fun cc2 _ => ?_
  ·clear HF;rename_i HF
   have dcc2 := eq_of_beq cc2
   refine wc_true HF rfl ?_
   refine wp_region_lit ?_
   refine zm HF ?_; clear HF a; intro a HF
   refine zm HF ?_; clear HF a; intro a HF
   refine zy HF (yl_addS rfl (HF.ev rfl) (HF.ev rfl) (by omega)) ?_; clear HF a; intro a HF
   refine za HF ?_; clear HF a; intro a HF
   refine wl_ne ?_
   refine wp_sr ?_
   refine zm HF ?_; clear HF a; intro a HF
   refine zm HF ?_; clear HF a; intro a HF
   refine zy HF (yl_addS rfl (HF.ev rfl) (HF.ev rfl) (by omega)) ?_; clear HF a; intro a HF
   refine za HF ?_; clear HF a; intro a HF
   refine wl_ne ?_
   refine wp_region_lit ?_
   refine zm HF ?_; clear HF a; intro a HF
   refine zy HF (yl_quoI rfl (HF.ev rfl) (HF.ev rfl) (by omega) (quo_pos (by omega) (by omega) (by omega))) ?_; clear HF a; intro a HF
   refine za HF ?_; clear HF a; intro a HF
   refine wpList_nil ?_
   refine ex_block ?_
   refine ex_then ?_
   have hmm : m / 2 + m / 2 + m % 2 = m := by omega
   have ho : m % 2 = 1 := by omega
   rw [many_odd o t m ho] at hq
   have hts : (t ++ t).size = t.size + t.size := ByteArray.size_append
   have hos : (o ++ t).size = o.size + t.size := ByteArray.size_append
   have hmt : (m / 2) * (t.size + t.size) + (m % 2) * t.size = m * t.size := by rw [Nat.mul_add, ← Nat.add_mul, ← Nat.add_mul, hmm]
   have hm1 : 1 * t.size ≤ m * t.size := Nat.mul_le_mul_right _ (by omega)
   rw [ho, Nat.one_mul] at hmt
   exact ⟨m / 2, ⟨_, _, ⟨by omega, hq, by rw [hts, hos]; omega, by rw [hts]; omega⟩, HF.less _ ⟨rfl, (by show _ = some (Value.int .i64 ((m / 2 : Nat) : Int)); rw [show ((m / 2 : Nat) : Int) = (m : Int) / 2 by omega]; rfl), rfl, trivial⟩, HS.out⟩, (by omega)⟩
  ·clear HF;rename_i HF
   have dcc2 := ne_of_beq_false cc2
   refine wc_false HF rfl ?_
   refine wp_skip ?_
   refine ex_then ?_
   refine wp_sr ?_
   refine zm HF ?_; clear HF a; intro a HF
   refine zm HF ?_; clear HF a; intro a HF
   refine zy HF (yl_addS rfl (HF.ev rfl) (HF.ev rfl) (by omega)) ?_; clear HF a; intro a HF
   refine za HF ?_; clear HF a; intro a HF
   refine wl_ne ?_
   refine wp_region_lit ?_
   refine zm HF ?_; clear HF a; intro a HF
   refine zy HF (yl_quoI rfl (HF.ev rfl) (HF.ev rfl) (by omega) (quo_pos (by omega) (by omega) (by omega))) ?_; clear HF a; intro a HF
   refine za HF ?_; clear HF a; intro a HF
   refine wpList_nil ?_
   refine ex_block ?_
   refine ex_then ?_
   have hmm : m / 2 + m / 2 + m % 2 = m := by omega
   have ho : ¬ m % 2 = 1 := by omega
   rw [many_even o t m ho] at hq
   have hts : (t ++ t).size = t.size + t.size := ByteArray.size_append
   have hmt : (m / 2) * (t.size + t.size) + (m % 2) * t.size = m * t.size := by rw [Nat.mul_add, ← Nat.add_mul, ← Nat.add_mul, hmm]
   have hm1 : 1 * t.size ≤ m * t.size := Nat.mul_le_mul_right _ (by omega)
   rw [show m % 2 = 0 by omega, Nat.zero_mul] at hmt
   exact ⟨m / 2, ⟨_, _, ⟨by omega, hq, by rw [hts]; omega, by rw [hts]; omega⟩, HF.less _ ⟨rfl, (by show _ = some (Value.int .i64 ((m / 2 : Nat) : Int)); rw [show ((m / 2 : Nat) : Int) = (m : Int) / 2 by omega]; rfl), rfl, trivial⟩, HS.out⟩, (by omega)⟩
 ·clear HF;rename_i HF
  have dcc1 := of_decide_eq_false cc1
  refine wc_false HF rfl ?_
  refine wp_exit ?_
  refine ex_then_exit ?_
  refine ex_then_exit ?_
  refine ex_block_hit ?_
  refine ex_then ?_
  refine wp_sr ?_
  refine zm HF ?_; clear HF a; intro a HF
  refine za HF ?_; clear HF a; intro a HF
  refine wl_ne ?_
  refine wp_ret ?_
  refine bp_ret1 HF Tryz.results139 (HF.res rfl) ?_
  obtain rfl : m = 0 := by omega
  have ho : o = manyB s n := by rw [← hq]; apply ba_ext; simp [list_append, manyB]
  exact ⟨by rw [ho], HS.out.bel⟩

end Go.Proofs.YtoaopmkbfifhaaaGreatDoor

/- Healing a set of disks, by the reference. -/
namespace Go.Proofs.YtoaopmkbfifhaaaGreatDoor
set_option linter.unusedVariables false
set_option linter.unusedSimpArgs false
set_option maxHeartbeats 1000000
set_option maxRecDepth 100000
open Go.RowKit

theorem lookW_mem (ws : List WaitD) (m : Nat) : ∀ t, lookW ws m = some t → ∃ k, k < ws.length ∧ t = (ws.getD k default).fText := by
  induction ws with
  | nil => intro t h; cases h
  | cons w ws ih =>
    intro t h
    rw [lookW_cons] at h
    cases h1 : lookW ws m with
    | some u =>
      rw [h1] at h
      obtain ⟨k, hk, e⟩ := ih u h1
      have : u = t := by simpa using h
      subst this
      exact ⟨k + 1, by simp; omega, by rw [e]; simp [List.getD]⟩
    | none =>
      rw [h1] at h
      simp only at h
      split at h
      · have : w.fText = t := by simpa using h
        exact ⟨0, by simp, by rw [← this]; simp [List.getD]⟩
      · cases h
theorem ok_parts {d : DiskD} (h : d.ok = true) : (∀ k, k < 64 → cellB d k = true) ∧ (∀ k, k < d.fWaits.length → waitB d k = true) := by
  have h2 := ok_waits h
  unfold DiskD.ok at h
  simp only [Bool.and_eq_true, decide_eq_true_eq] at h
  exact ⟨fun k hk => allB_at h.2.2.2.1 (by omega), fun k hk => allB_at h.2.2.2.2 hk⟩
theorem look_le {d : DiskD} (h : d.ok = true) (m : Nat) (hm : m < 64) : (d.look m).size ≤ 200 := by
  obtain ⟨h1, h2⟩ := ok_parts h
  unfold DiskD.look
  cases hl : lookW d.fWaits m with
  | none =>
    have := h1 m hm
    unfold cellB at this
    simp only [Bool.and_eq_true, decide_eq_true_eq] at this
    exact this.1
  | some t =>
    obtain ⟨k, hk, e⟩ := lookW_mem _ _ _ hl
    have := h2 k hk
    unfold waitB at this
    simp only [Bool.and_eq_true, decide_eq_true_eq] at this
    rw [Option.getD_some, e]; exact this.2
theorem okR_three {ps : List HD} (h : okR (dsOf ps) = true) : ps.length = 3 ∧ ∀ k, k < ps.length → (ps.getD k default).d.ok = true := by
  rw [okR_ps] at h
  simp only [Bool.and_eq_true, decide_eq_true_eq] at h
  exact ⟨h.1, fun k hk => allB_at (p := fun k => (ps.getD k default).d.ok) h.2 hk⟩
end Go.Proofs.YtoaopmkbfifhaaaGreatDoor

/- A round over the disks, by a function value. -/
namespace Go.Proofs.YtoaopmkbfifhaaaGreatDoor
set_option linter.unusedVariables false
set_option linter.unusedSimpArgs false
set_option maxHeartbeats 1000000
set_option maxRecDepth 100000
open Go.RowKit

theorem each_any (w0 w : World) (a0 : Option Addr) (c0 : Nat) (ps : List HD) (f : FuncId) (caps : Array Value) (step : Nat → DiskD → Option DiskD) (C : Nat → List Asr) (F : List Asr) (hl : ps.length ≤ 1048576) (HE : ∀ (args : Array Value) (w : World), (callFunc f args).run Tryz.prog w = .ok (.enter f args) w) (hR : Rd HD.cells 3 w0 a0 ps.length ps) (hf : ∀ k, k < ps.length → ∀ (w : World) (X : List Asr), (∃ xs, eachTo step (dsOf ps) k = some xs) → St w0 (C k ++ X) w → Calls Tryz.prog f (#[] ++ #[.int .i64 (k : Int), .agg #[.slice ((ps.getD k default).a0) ((ps.getD k default).d.fCells.length) ((ps.getD k default).c0), .slice ((ps.getD k default).a1) ((ps.getD k default).d.fWaits.length) ((ps.getD k default).c1), .bool ((ps.getD k default).d.fGone)]] ++ caps) w fun e w' => (step k (ps.getD k default).d = none ∧ ∃ q : HD, e = .returned (.tuple #[.agg #[.slice q.a0 q.d.fCells.length q.c0, .slice q.a1 q.d.fWaits.length q.c1, .bool q.d.fGone], .bool false]) ∧ St w0 X w') ∨ (∃ q : HD, step k (ps.getD k default).d = some q.d ∧ e = .returned (.tuple #[.agg #[.slice q.a0 q.d.fCells.length q.c0, .slice q.a1 q.d.fWaits.length q.c1, .bool q.d.fGone], .bool true]) ∧ St w0 (q.asr :: (C (k + 1) ++ X)) w')) (hS : St w0 (C 0 ++ F) w) : Calls Tryz.prog 75 #[.agg #[.slice a0 ps.length c0], .func (.func f) #[] caps] w fun e w' => (eachTo step (dsOf ps) ps.length = none ∧ e = .returned (.tuple #[.agg #[.slice none 0 0], .bool false]) ∧ St w0 F w') ∨ (∃ ao cp qs, eachTo step (dsOf ps) ps.length = some (dsOf qs) ∧ e = .returned (.tuple #[.agg #[.slice ao qs.length cp], .bool true]) ∧ St w0 (rowA HD.cells 3 94 (.slice ao qs.length cp) qs :: sepA (qs.map HD.asr) :: (C ps.length ++ F)) w') := by
 have HR := Bx.mk hR; have HF0 := Bx.mk hf; clear hR hf
 have HS := Bx.mk hS; clear hS
 refine wc_enter Tryz.func75 rfl Tryz.ntmps75 [(0, .agg #[.slice a0 ps.length c0]), (1, .func (.func f) #[] caps)] ⟨rfl, rfl, trivial⟩ rfl ?_; intro a HF
 refine wp_sr ?_
 refine wl_box rfl HF rfl (HF.ev rfl) (Z := [.slice a0 ps.length c0]) rfl rfl rfl rfl HS.out ?_; clear HF HS a; intro a w1 b1 HF HS; replace HS := Bx.mk HS
 refine wl_alloc rfl HF rfl rfl rfl (Z := [.slice none 0 0]) (by kernel_rfl) rfl HS.out ?_; clear HF HS a; intro a w2 b2 HF HS; replace HS := Bx.mk HS
 refine za HF ?_; clear HF a; intro a HF
 refine wl_ne ?_
 refine wp_sr ?_
 refine wl_alloc rfl HF rfl rfl rfl (Z := [.slice none 0 0]) (by kernel_rfl) rfl HS.out ?_; clear HF HS a; intro a w3 b3 HF HS; replace HS := Bx.mk HS
 refine wl_ne ?_
 refine wp_seq ?_
 refine wp_sr ?_
 refine zy HF (yfa 0 rfl (HF.ev rfl)) ?_; clear HF a; intro a HF
 refine zy HF (ylo (v := .slice a0 ps.length c0) rfl (HF.ev rfl) (((HS.out.box 2 rfl).cell 0).trans rfl)) ?_; clear HF a; intro a HF
 refine zy HF (yl_lenL (e := 94) (size := 3) rfl (HF.ev rfl) (by kernel_rfl)) ?_; clear HF a; intro a HF
 refine zm HF ?_; clear HF a; intro a HF
 refine wl_ne ?_
 refine wp_block ?_
 replace HS := Bx.mk ((HS.out.hdNil).nilRow HD.cells 3 94 none)
 refine wc_loop (ι := Nat) (fun k a w => ∃ (ao : Option Addr) (cp : Nat) (qs : List HD), (k ≤ ps.length ∧ qs.length = k ∧ eachTo step (dsOf ps) k = some (dsOf qs)) ∧ Fr 37 a [(1, .func (.func f) #[] caps), (2, .pointer (some ⟨b1, 0, none⟩)), (4, .pointer (some ⟨b2, 0, none⟩)), (5, .bool false), (6, .pointer (some ⟨b3, 0, none⟩)), (12, .slice a0 ps.length c0), (13, .int .i64 (ps.length : Int)), (14, .int .i64 (k : Int))] ∧ St w0 (rowA HD.cells 3 94 (.slice ao qs.length cp) qs :: sepA (qs.map HD.asr) :: boxA b3 1 34 (.agg #[.slice ao qs.length cp]) :: boxA b2 1 34 (.agg #[.slice none 0 0]) :: boxA b1 1 34 (.agg #[.slice a0 ps.length c0]) :: (C k ++ F)) w) (fun k => ps.length - k) 0 ⟨_, _, [], ⟨Nat.zero_le _, rfl, rfl⟩, HF.less _ ⟨rfl, rfl, rfl, rfl, rfl, rfl, rfl, rfl, trivial⟩, HS.out⟩ ?_
 clear HF HS; clear a
 rintro k a w4 ⟨ao, cp, qs, ⟨hk, hql, hq⟩, HF, HS⟩
 replace HS := Bx.mk HS
 refine wp_sr ?_
 refine zy HF (yl_lssI rfl (HF.ev rfl) (HF.ev rfl)) ?_; clear HF a; intro a HF
 refine wl_ne ?_
 refine wp_seq ?_
 refine HF.cases 15 rfl (fun cc1 _ => ?_) fun cc1 _ => ?_
 ·clear HF;rename_i HF
  have dcc1 := of_decide_eq_true cc1
  refine wc_true HF rfl ?_
  refine wp_skip ?_
  refine ex_then ?_
  refine wp_seq ?_
  refine wp_block ?_
  refine wp_seq ?_
  obtain ⟨g0, o0, r0⟩ := HR.out.opn; have R0 := Bx.mk r0; clear r0
  refine wp_region_lit ?_
  refine zm HF ?_; clear HF a; intro a HF
  refine zy HF (yl_indexAddrR (e := 94) (i := k) (size := 3) rfl (HF.ev rfl) (HF.ev rfl) (by kernel_rfl) rfl (by omega) (R0.out.ao k (by omega))) ?_; clear HF a; intro a HF
  refine zy HF (ylr (cs := [.slice ((ps.getD k default).a0) ((ps.getD k default).d.fCells.length) ((ps.getD k default).c0), .slice ((ps.getD k default).a1) ((ps.getD k default).d.fWaits.length) ((ps.getD k default).c1), .bool ((ps.getD k default).d.fGone)]) rfl (HF.ev rfl) (R0.out.elem HS.out (get_getD (xs := ps) (j := k) (d := default) (by omega)))) ?_; clear HF a; intro a HF
  refine wl_alloc rfl HF rfl rfl rfl (Z := [.slice none 0 0, .slice none 0 0, .bool false]) (by kernel_rfl) rfl HS.out ?_; clear HF HS a; intro a w5 b4 HF HS; replace HS := Bx.mk HS
  refine za HF ?_; clear HF a; intro a HF
  refine wl_storeBox rfl HF rfl rfl (HF.ev rfl) (HF.ev rfl) HS.out 0 rfl (cells_lit [.slice ((ps.getD k default).a0) ((ps.getD k default).d.fCells.length) ((ps.getD k default).c0), .slice ((ps.getD k default).a1) ((ps.getD k default).d.fWaits.length) ((ps.getD k default).c1), .bool ((ps.getD k default).d.fGone)] rfl rfl) (by kernel_rfl) ?_; clear HS; intro w6 HS; replace HS := Bx.mk HS
  have HS : Bx (St w0 (boxA b4 3 94 (.agg #[.slice ((ps.getD k default).a0) ((ps.getD k default).d.fCells.length) ((ps.getD k default).c0), .slice ((ps.getD k default).a1) ((ps.getD k default).d.fWaits.length) ((ps.getD k default).c1), .bool ((ps.getD k default).d.fGone)]) :: rowA HD.cells 3 94 (.slice ao qs.length cp) qs :: sepA (qs.map HD.asr) :: boxA b3 1 34 (.agg #[.slice ao qs.length cp]) :: boxA b2 1 34 (.agg #[.slice none 0 0]) :: boxA b1 1 34 (.agg #[.slice a0 ps.length c0]) :: (C k ++ F)) _) := HS
  refine wl_ne ?_
  refine wp_sr ?_
  refine zm HF ?_; clear HF a; intro a HF
  refine zm HF ?_; clear HF a; intro a HF
  refine zy HF (ylr (cs := [.slice ((ps.getD k default).a0) ((ps.getD k default).d.fCells.length) ((ps.getD k default).c0), .slice ((ps.getD k default).a1) ((ps.getD k default).d.fWaits.length) ((ps.getD k default).c1), .bool ((ps.getD k default).d.fGone)]) rfl (HF.ev rfl) ((HS.out.box 0 rfl).sub 0 3)) ?_; clear HF a; intro a HF
  refine wl_callv rfl HF rfl (HF.ev rfl) HE (args := #[.int .i64 (k : Int), .agg #[.slice ((ps.getD k default).a0) ((ps.getD k default).d.fCells.length) ((ps.getD k default).c0), .slice ((ps.getD k default).a1) ((ps.getD k default).d.fWaits.length) ((ps.getD k default).c1), .bool ((ps.getD k default).d.fGone)]]) rfl (HF0.out k (by omega) _ ([boxA b4 3 94 (.agg #[.slice ((ps.getD k default).a0) ((ps.getD k default).d.fCells.length) ((ps.getD k default).c0), .slice ((ps.getD k default).a1) ((ps.getD k default).d.fWaits.length) ((ps.getD k default).c1), .bool ((ps.getD k default).d.fGone)]), rowA HD.cells 3 94 (.slice ao qs.length cp) qs, sepA (qs.map HD.asr), boxA b3 1 34 (.agg #[.slice ao qs.length cp]), boxA b2 1 34 (.agg #[.slice none 0 0]), boxA b1 1 34 (.agg #[.slice a0 ps.length c0])] ++ F) ⟨_, hq⟩ (St.midl (L := [boxA b4 3 94 (.agg #[.slice ((ps.getD k default).a0) ((ps.getD k default).d.fCells.length) ((ps.getD k default).c0), .slice ((ps.getD k default).a1) ((ps.getD k default).d.fWaits.length) ((ps.getD k default).c1), .bool ((ps.getD k default).d.fGone)]), rowA HD.cells 3 94 (.slice ao qs.length cp) qs, sepA (qs.map HD.asr), boxA b3 1 34 (.agg #[.slice ao qs.length cp]), boxA b2 1 34 (.agg #[.slice none 0 0]), boxA b1 1 34 (.agg #[.slice a0 ps.length c0])]) HS.out)) rfl rfl ?_
  rintro _ w7 (⟨hev, q, rfl, hs⟩ | ⟨q, hev, rfl, hs⟩)
  ·skip
   refine ⟨_, rfl, ?_⟩; replace HS := Bx.mk hs;clear hs HF a;intro a HF
   try dsimp only [List.eraseIdx] at HS
   refine zm HF ?_; clear HF a; intro a HF
   refine zy HF (yl_extract rfl (HF.ev rfl) rfl) ?_; clear HF a; intro a HF
   refine zy HF (yl_extract rfl (HF.ev rfl) rfl) ?_; clear HF a; intro a HF
   refine wl_alloc rfl HF rfl rfl rfl (Z := [.slice none 0 0, .slice none 0 0, .bool false]) (by kernel_rfl) rfl HS.out ?_; clear HF HS a; intro a w8 b5 HF HS; replace HS := Bx.mk HS
   refine wl_storeBox rfl HF rfl rfl (HF.ev rfl) (HF.ev rfl) HS.out 0 rfl (cells_lit [.slice q.a0 q.d.fCells.length q.c0, .slice q.a1 q.d.fWaits.length q.c1, .bool q.d.fGone] rfl rfl) (by kernel_rfl) ?_; clear HS; intro w9 HS; replace HS := Bx.mk HS
   have HS : Bx (St w0 (boxA b5 3 94 (.agg #[.slice q.a0 q.d.fCells.length q.c0, .slice q.a1 q.d.fWaits.length q.c1, .bool q.d.fGone]) :: boxA b4 3 94 (.agg #[.slice ((ps.getD k default).a0) ((ps.getD k default).d.fCells.length) ((ps.getD k default).c0), .slice ((ps.getD k default).a1) ((ps.getD k default).d.fWaits.length) ((ps.getD k default).c1), .bool ((ps.getD k default).d.fGone)]) :: rowA HD.cells 3 94 (.slice ao qs.length cp) qs :: sepA (qs.map HD.asr) :: boxA b3 1 34 (.agg #[.slice ao qs.length cp]) :: boxA b2 1 34 (.agg #[.slice none 0 0]) :: boxA b1 1 34 (.agg #[.slice a0 ps.length c0]) :: F) _) := HS
   refine za HF ?_; clear HF a; intro a HF
   refine wl_ne ?_
   refine wp_seq ?_
   refine wp_sr ?_
   refine zm HF ?_; clear HF a; intro a HF
   refine zy HF (yl_not rfl (HF.ev rfl)) ?_; clear HF a; intro a HF
   refine wl_ne ?_
   refine wc_true HF rfl ?_
   refine wp_sr ?_
   refine zy HF (yl_build HF rfl (ps := []) rfl (cs := #[.slice none 0 0]) (by kernel_rfl)) ?_; clear HF a; intro a HF
   refine wl_storeBox rfl HF rfl rfl (HF.ev rfl) (HF.ev rfl) HS.out 5 rfl (cells_lit [.slice none 0 0] rfl rfl) (by kernel_rfl) ?_; clear HS; intro w10 HS; replace HS := Bx.mk HS
   have HS : Bx (St w0 (boxA b5 3 94 (.agg #[.slice q.a0 q.d.fCells.length q.c0, .slice q.a1 q.d.fWaits.length q.c1, .bool q.d.fGone]) :: boxA b4 3 94 (.agg #[.slice ((ps.getD k default).a0) ((ps.getD k default).d.fCells.length) ((ps.getD k default).c0), .slice ((ps.getD k default).a1) ((ps.getD k default).d.fWaits.length) ((ps.getD k default).c1), .bool ((ps.getD k default).d.fGone)]) :: rowA HD.cells 3 94 (.slice ao qs.length cp) qs :: sepA (qs.map HD.asr) :: boxA b3 1 34 (.agg #[.slice ao qs.length cp]) :: boxA b2 1 34 (.agg #[.slice none 0 0]) :: boxA b1 1 34 (.agg #[.slice a0 ps.length c0]) :: F) _) := HS
   refine za HF ?_; clear HF a; intro a HF
   refine wl_ne ?_
   refine wp_ret ?_
   refine ex_then_ret ?_
   refine ex_block_ret ?_
   refine ex_then_ret ?_
   refine ex_then_ret ?_
   refine ex_block_ret ?_
   refine ex_then_ret ?_
   refine bp_ret2 HF Tryz.results75 (HF.resBox rfl (HS.out.box 5 rfl) (by kernel_rfl)) (HF.res rfl) ?_
   exact .inl ⟨eachTo_fail (k := k) (by rw [dsOf_get]; exact hev) (by omega), rfl, (((((((HS.out.erase 6).erase 5).erase 4).erase 3).erase 2).erase 1).erase 0)⟩
  ·skip
   refine ⟨_, rfl, ?_⟩; replace HS := Bx.mk (St.midl (L := C (k + 1)) (C := HD.asr q :: [boxA b4 3 94 (.agg #[.slice ((ps.getD k default).a0) ((ps.getD k default).d.fCells.length) ((ps.getD k default).c0), .slice ((ps.getD k default).a1) ((ps.getD k default).d.fWaits.length) ((ps.getD k default).c1), .bool ((ps.getD k default).d.fGone)]), rowA HD.cells 3 94 (.slice ao qs.length cp) qs, sepA (qs.map HD.asr), boxA b3 1 34 (.agg #[.slice ao qs.length cp]), boxA b2 1 34 (.agg #[.slice none 0 0]), boxA b1 1 34 (.agg #[.slice a0 ps.length c0])]) (St.midl (L := [HD.asr q]) hs));clear hs HF a;intro a HF
   try dsimp only [List.eraseIdx] at HS
   refine zm HF ?_; clear HF a; intro a HF
   refine zy HF (yl_extract rfl (HF.ev rfl) rfl) ?_; clear HF a; intro a HF
   refine zy HF (yl_extract rfl (HF.ev rfl) rfl) ?_; clear HF a; intro a HF
   refine wl_alloc rfl HF rfl rfl rfl (Z := [.slice none 0 0, .slice none 0 0, .bool false]) (by kernel_rfl) rfl HS.out ?_; clear HF HS a; intro a w11 b6 HF HS; replace HS := Bx.mk HS
   refine wl_storeBox rfl HF rfl rfl (HF.ev rfl) (HF.ev rfl) HS.out 0 rfl (cells_lit [.slice q.a0 q.d.fCells.length q.c0, .slice q.a1 q.d.fWaits.length q.c1, .bool q.d.fGone] rfl rfl) (by kernel_rfl) ?_; clear HS; intro w12 HS; replace HS := Bx.mk HS
   have HS : Bx (St w0 (boxA b6 3 94 (.agg #[.slice q.a0 q.d.fCells.length q.c0, .slice q.a1 q.d.fWaits.length q.c1, .bool q.d.fGone]) :: HD.asr q :: boxA b4 3 94 (.agg #[.slice ((ps.getD k default).a0) ((ps.getD k default).d.fCells.length) ((ps.getD k default).c0), .slice ((ps.getD k default).a1) ((ps.getD k default).d.fWaits.length) ((ps.getD k default).c1), .bool ((ps.getD k default).d.fGone)]) :: rowA HD.cells 3 94 (.slice ao qs.length cp) qs :: sepA (qs.map HD.asr) :: boxA b3 1 34 (.agg #[.slice ao qs.length cp]) :: boxA b2 1 34 (.agg #[.slice none 0 0]) :: boxA b1 1 34 (.agg #[.slice a0 ps.length c0]) :: (C (k + 1) ++ F)) _) := HS
   refine za HF ?_; clear HF a; intro a HF
   refine wl_ne ?_
   refine wp_seq ?_
   refine wp_sr ?_
   refine zm HF ?_; clear HF a; intro a HF
   refine zy HF (yl_not rfl (HF.ev rfl)) ?_; clear HF a; intro a HF
   refine wl_ne ?_
   refine wc_false HF rfl ?_
   refine wp_skip ?_
   refine ex_then ?_
   refine wp_region_lit ?_
   refine zy HF (yfa 0 rfl (HF.ev rfl)) ?_; clear HF a; intro a HF
   refine zy HF (ylo (v := .slice ao qs.length cp) rfl (HF.ev rfl) (((HS.out.box 5 rfl).cell 0).trans rfl)) ?_; clear HF a; intro a HF
   refine zy HF (ylr (cs := [.slice q.a0 q.d.fCells.length q.c0, .slice q.a1 q.d.fWaits.length q.c1, .bool q.d.fGone]) rfl (HF.ev rfl) ((HS.out.box 0 rfl).sub 0 3)) ?_; clear HF a; intro a HF
   refine wl_buildS (enc := HD.cells) (e := 94) (size := 3) rfl HF rfl rfl rfl (ps := [(0, .agg #[.slice q.a0 q.d.fCells.length q.c0, .slice q.a1 q.d.fWaits.length q.c1, .bool q.d.fGone])]) rfl (cells := [.slice q.a0 q.d.fCells.length q.c0, .slice q.a1 q.d.fWaits.length q.c1, .bool q.d.fGone]) (by kernel_rfl) [q] rfl rfl (by unfold maxLen; omega) rfl HS.out ?_; clear HF HS a; intro b7 a w13 HF HS; replace HS := Bx.mk HS
   refine wl_appL rfl HF rfl rfl rfl (HF.ev rfl) (HF.ev rfl) elemD HD.cells_len HS.out 4 (xs := qs) rfl (ys := [q]) (St.rdN HS.out HD.cells_len 0 rfl) (cells_one_D _) (by unfold maxLen; simp only [List.length_cons, List.length_nil]; omega) (by simp only [List.length_cons, List.length_nil]; omega) ?_; clear HF HS a; intro ao8 cp9 w14 a HF HS; replace HS := Bx.mk HS
   try dsimp only [List.eraseIdx] at HS
   refine zy HF (yfa 0 rfl (HF.ev rfl)) ?_; clear HF a; intro a HF
   refine wl_storeF rfl rfl rfl (HF.ev rfl) (HF.ev rfl) (by kernel_rfl) HS.out 6 rfl rfl rfl ?_; clear HS; intro w15 HS; replace HS := Bx.mk HS
   have HS : Bx (St w0 (rowA HD.cells 3 94 (.slice (some ⟨b7, 0, none⟩) 1 1) ([q]) :: boxA b6 3 94 (.agg #[.slice q.a0 q.d.fCells.length q.c0, .slice q.a1 q.d.fWaits.length q.c1, .bool q.d.fGone]) :: HD.asr q :: boxA b4 3 94 (.agg #[.slice ((ps.getD k default).a0) ((ps.getD k default).d.fCells.length) ((ps.getD k default).c0), .slice ((ps.getD k default).a1) ((ps.getD k default).d.fWaits.length) ((ps.getD k default).c1), .bool ((ps.getD k default).d.fGone)]) :: rowA HD.cells 3 94 (.slice ao8 (qs.length + ([q]).length) cp9) (qs ++ ([q])) :: sepA (qs.map HD.asr) :: boxA b3 1 34 (.agg #[.slice ao8 (qs.length + ([q]).length) cp9]) :: boxA b2 1 34 (.agg #[.slice none 0 0]) :: boxA b1 1 34 (.agg #[.slice a0 ps.length c0]) :: (C (k + 1) ++ F)) _) := HS
   refine wpList_nil ?_
   refine ex_block ?_
   refine ex_then ?_
   refine wp_region_lit ?_
   refine zy HF (yl_addI rfl (HF.ev rfl) (HF.ev rfl) (i64w (by omega))) ?_; clear HF a; intro a HF
   refine zm HF ?_; clear HF a; intro a HF
   refine wl_ne ?_
   have hz : qs.length + [q].length = (qs ++ [q]).length := (List.length_append ..).symm
   rw [hz] at HS
   replace HS := Bx.mk (St.hdSnoc (((HS.out).pick 5 rfl).pick 3 rfl))
   replace HS := Bx.mk ((((((((((HS.out).pick 7 rfl).pick 7 rfl).pick 7 rfl).pick 3 rfl).pick 7 rfl).erase 7).erase 6).erase 5))
   have hnext : eachTo step (dsOf ps) (k + 1) = some (dsOf (qs ++ [q])) := by rw [dsOf_append]; exact eachTo_next (x := q.d) hq (by rw [dsOf_get]; exact hev)
   exact ⟨k + 1, ⟨_, _, qs ++ [q], ⟨by omega, by rw [List.length_append]; show qs.length + 1 = k + 1; omega, hnext⟩, HF.less _ ⟨rfl, rfl, rfl, rfl, rfl, rfl, rfl, rfl, trivial⟩, HS.out⟩, (by omega)⟩
 ·clear HF;rename_i HF
  have dcc1 := of_decide_eq_false cc1
  refine wc_false HF rfl ?_
  refine wp_exit ?_
  refine ex_then_exit ?_
  refine ex_then_exit ?_
  refine ex_block_hit ?_
  refine ex_then ?_
  refine wp_sr ?_
  refine zy HF (ylr (cs := [.slice ao qs.length cp]) rfl (HF.ev rfl) ((HS.out.box 2 rfl).sub 0 1)) ?_; clear HF a; intro a HF
  refine wl_storeBox rfl HF rfl rfl (HF.ev rfl) (HF.ev rfl) HS.out 3 rfl (cells_lit [.slice ao qs.length cp] rfl rfl) (by kernel_rfl) ?_; clear HS; intro w16 HS; replace HS := Bx.mk HS
  have HS : Bx (St w0 (rowA HD.cells 3 94 (.slice ao qs.length cp) qs :: sepA (qs.map HD.asr) :: boxA b3 1 34 (.agg #[.slice ao qs.length cp]) :: boxA b2 1 34 (.agg #[.slice ao qs.length cp]) :: boxA b1 1 34 (.agg #[.slice a0 ps.length c0]) :: (C k ++ F)) _) := HS
  refine za HF ?_; clear HF a; intro a HF
  refine wl_ne ?_
  refine wp_ret ?_
  refine bp_ret2 HF Tryz.results75 (HF.resBox rfl (HS.out.box 3 rfl) (by kernel_rfl)) (HF.res rfl) ?_
  replace HS : Bx (St w0 (rowA HD.cells 3 94 (.slice ao qs.length cp) qs :: sepA (qs.map HD.asr) :: boxA b3 1 34 (.agg #[.slice ao qs.length cp]) :: boxA b2 1 34 (.agg #[.slice ao qs.length cp]) :: boxA b1 1 34 (.agg #[.slice a0 ps.length c0]) :: (C k ++ F)) _) := ⟨((HS.out).pick 1 rfl).pick 1 rfl⟩
  obtain rfl : k = ps.length := by omega
  exact .inr ⟨_, _, qs, hq, rfl, (((HS.out.erase 4).erase 3).erase 2)⟩

end Go.Proofs.YtoaopmkbfifhaaaGreatDoor

/- Healing a set of disks, by the program. -/
namespace Go.Proofs.YtoaopmkbfifhaaaGreatDoor
set_option linter.unusedVariables false
set_option linter.unusedSimpArgs false
set_option maxHeartbeats 1000000
set_option maxRecDepth 100000
open Go.RowKit

theorem inB_yes {n lo hi : Int} (h1 : lo ≤ n) (h2 : n ≤ hi) : inB n lo hi = true := by
  unfold inB; simp [h1, h2]
end Go.Proofs.YtoaopmkbfifhaaaGreatDoor

/- New disks and sets of disks; a set of disks flushed. -/
namespace Go.Proofs.YtoaopmkbfifhaaaGreatDoor
set_option linter.unusedVariables false
set_option linter.unusedSimpArgs false
set_option maxHeartbeats 1000000
set_option maxRecDepth 100000
open Go.RowKit

theorem diskNew_any (w0 : World) : Calls Tryz.prog 137 #[] w0 fun e w' => ∃ q : HD, q.d = newD ∧ e = .returned (.agg #[.slice q.a0 q.d.fCells.length q.c0, .slice q.a1 q.d.fWaits.length q.c1, .bool q.d.fGone]) ∧ St w0 [q.asr] w' := by
 have HS := Bx.mk (St.start w0)
 refine wc_enter Tryz.func137 rfl Tryz.ntmps137 [] trivial rfl ?_; intro a HF
 refine wp_sr ?_
 refine wl_alloc rfl HF rfl rfl rfl (Z := [.slice none 0 0, .slice none 0 0, .bool false]) (by kernel_rfl) rfl HS.out ?_; clear HF HS a; intro a w1 b1 HF HS; replace HS := Bx.mk HS
 refine wl_ne ?_
 refine wp_sr ?_
 refine wl_makeS (enc := encS) (n := 64) rfl HF rfl rfl rfl elemS (HF.ev rfl) (HF.ev rfl) (by omega) (by omega) (by omega) (by unfold maxLen; omega) ByteArray.empty (by kernel_rfl) rfl rfl HS.out ?_; clear HF HS a; intro b2 a w2 HF HS; replace HS := Bx.mk HS
 refine wl_empty (e := 137) (size := 2) rfl HF rfl rfl rfl (by kernel_rfl) HS.out ?_; clear HF HS a; intro a w3 b3 HF HS; replace HS := Bx.mk HS
 refine zy HF (yl_build HF rfl (ps := [(0, .slice (some ⟨b2, 0, none⟩) 64 64), (1, .slice (some ⟨b3, 0, none⟩) 0 0)]) rfl (cs := #[.slice (some ⟨b2, 0, none⟩) 64 64, .slice (some ⟨b3, 0, none⟩) 0 0, .bool false]) (by kernel_rfl)) ?_; clear HF a; intro a HF
 refine wl_storeBox rfl HF rfl rfl (HF.ev rfl) (HF.ev rfl) HS.out 1 rfl (cells_lit [.slice (some ⟨b2, 0, none⟩) 64 64, .slice (some ⟨b3, 0, none⟩) 0 0, .bool false] rfl rfl) (by kernel_rfl) ?_; clear HS; intro w4 HS; replace HS := Bx.mk HS
 have HS : Bx (St w0 ([rowA encS 1 9 (.slice (some ⟨b2, 0, none⟩) 64 64) (List.replicate 64 ByteArray.empty), boxA b1 3 94 (.agg #[.slice (some ⟨b2, 0, none⟩) 64 64, .slice (some ⟨b3, 0, none⟩) 0 0, .bool false])]) _) := HS
 refine wl_ne ?_
 refine wp_ret ?_
 refine bp_ret1 HF Tryz.results137 (HF.resBox rfl (HS.out.box 1 rfl) (by kernel_rfl)) ?_
 replace HS := Bx.mk (HS.out.nilRow WaitD.cells 2 137 (some ⟨b3, 0, none⟩))
 exact ⟨⟨some ⟨b2, 0, none⟩, 64, some ⟨b3, 0, none⟩, 0, newD⟩, rfl, rfl, (St.join (r := [_, _]) (s := [])).1 (((HS.out.pick 1 rfl).erase 2))⟩

theorem specLose_any (w0 : World) : Calls Tryz.prog 95 #[] w0 fun e w' => ∃ q : HD, q.d = lostD ∧ e = .returned (.agg #[.slice q.a0 q.d.fCells.length q.c0, .slice q.a1 q.d.fWaits.length q.c1, .bool q.d.fGone]) ∧ St w0 [q.asr] w' := by
 have HS := Bx.mk (St.start w0)
 refine wc_enter Tryz.func95 rfl Tryz.ntmps95 [] trivial rfl ?_; intro a HF
 refine wp_sr ?_
 refine wl_alloc rfl HF rfl rfl rfl (Z := [.slice none 0 0, .slice none 0 0, .bool false]) (by kernel_rfl) rfl HS.out ?_; clear HF HS a; intro a w1 b1 HF HS; replace HS := Bx.mk HS
 refine wl_ne ?_
 refine wp_sr ?_
 refine wl_call rfl HF rfl (enter_of Tryz.func137 (by kernel_rfl) rfl) (args := #[]) rfl (diskNew_any _) rfl rfl ?_
 rintro _ w2 ⟨⟨qa2, qc2, qb2, qe2, qd⟩, hqd, rfl, hs⟩; obtain rfl : qd = newD := hqd; refine ⟨_, rfl, ?_⟩
 replace HS := Bx.mk ((HS.out.add hs));clear hs HF a;intro a HF
 try dsimp only [List.eraseIdx] at HS
 refine wl_alloc rfl HF rfl rfl rfl (Z := [.slice none 0 0, .slice none 0 0, .bool false]) (by kernel_rfl) rfl HS.out ?_; clear HF HS a; intro a w3 b3 HF HS; replace HS := Bx.mk HS
 refine wl_storeBox rfl HF rfl rfl (HF.ev rfl) (HF.ev rfl) HS.out 0 rfl (cells_lit [.slice qa2 newD.fCells.length qc2, .slice qb2 newD.fWaits.length qe2, .bool newD.fGone] rfl rfl) (by kernel_rfl) ?_; clear HS; intro w4 HS; replace HS := Bx.mk HS
 have HS : Bx (St w0 ([boxA b3 3 94 (.agg #[.slice qa2 newD.fCells.length qc2, .slice qb2 newD.fWaits.length qe2, .bool newD.fGone]), HD.asr ⟨qa2, qc2, qb2, qe2, newD⟩, boxA b1 3 94 (.agg #[.slice none 0 0, .slice none 0 0, .bool false])]) _) := HS
 refine wl_ne ?_
 refine wp_sr ?_
 refine zy HF (yfa 2 rfl (HF.ev rfl)) ?_; clear HF a; intro a HF
 refine wl_storeF rfl rfl rfl (HF.ev rfl) (HF.ev rfl) (by kernel_rfl) HS.out 0 rfl rfl rfl ?_; clear HS; intro w5 HS; replace HS := Bx.mk HS
 have HS : Bx (St w0 ([boxA b3 3 94 (.agg #[.slice qa2 newD.fCells.length qc2, .slice qb2 newD.fWaits.length qe2, .bool true]), HD.asr ⟨qa2, qc2, qb2, qe2, newD⟩, boxA b1 3 94 (.agg #[.slice none 0 0, .slice none 0 0, .bool false])]) _) := HS
 refine wl_ne ?_
 refine wp_sr ?_
 refine zy HF (ylr (cs := [.slice qa2 newD.fCells.length qc2, .slice qb2 newD.fWaits.length qe2, .bool true]) rfl (HF.ev rfl) ((HS.out.box 0 rfl).sub 0 3)) ?_; clear HF a; intro a HF
 refine wl_storeBox rfl HF rfl rfl (HF.ev rfl) (HF.ev rfl) HS.out 2 rfl (cells_lit [.slice qa2 newD.fCells.length qc2, .slice qb2 newD.fWaits.length qe2, .bool true] rfl rfl) (by kernel_rfl) ?_; clear HS; intro w6 HS; replace HS := Bx.mk HS
 have HS : Bx (St w0 ([boxA b3 3 94 (.agg #[.slice qa2 newD.fCells.length qc2, .slice qb2 newD.fWaits.length qe2, .bool true]), HD.asr ⟨qa2, qc2, qb2, qe2, newD⟩, boxA b1 3 94 (.agg #[.slice qa2 newD.fCells.length qc2, .slice qb2 newD.fWaits.length qe2, .bool true])]) _) := HS
 refine wl_ne ?_
 refine wp_ret ?_
 refine bp_ret1 HF Tryz.results95 (HF.resBox rfl (HS.out.box 2 rfl) (by kernel_rfl)) ?_
 replace HS : Bx (St w0 ([HD.asr ⟨qa2, qc2, qb2, qe2, newD⟩, boxA b3 3 94 (.agg #[.slice qa2 newD.fCells.length qc2, .slice qb2 newD.fWaits.length qe2, .bool true]), boxA b1 3 94 (.agg #[.slice qa2 newD.fCells.length qc2, .slice qb2 newD.fWaits.length qe2, .bool true])]) _) := ⟨(HS.out).pick 1 rfl⟩
 exact ⟨⟨qa2, qc2, qb2, qe2, lostD⟩, rfl, rfl, ((HS.out.erase 2).erase 1)⟩

theorem raidNew_any (w0 : World) : Calls Tryz.prog 93 #[] w0 fun e w' => ∃ (g c : Nat) (qs : List HD), dsOf qs = [newD, newD, newD] ∧ e = .returned (.agg #[.slice (some ⟨g, 0, none⟩) qs.length c]) ∧ St w0 [rowA HD.cells 3 94 (.slice (some ⟨g, 0, none⟩) qs.length c) qs, sepA (qs.map HD.asr)] w' := by
 have HS := Bx.mk (St.start w0)
 refine wc_enter Tryz.func93 rfl Tryz.ntmps93 [] trivial rfl ?_; intro a HF
 refine wp_sr ?_
 refine wl_alloc rfl HF rfl rfl rfl (Z := [.slice none 0 0]) (by kernel_rfl) rfl HS.out ?_; clear HF HS a; intro a w1 b1 HF HS; replace HS := Bx.mk HS
 refine wl_ne ?_
 refine wp_sr ?_
 refine wl_empty (e := 94) (size := 3) rfl HF rfl rfl rfl (by kernel_rfl) HS.out ?_; clear HF HS a; intro a w2 b2 HF HS; replace HS := Bx.mk HS
 refine zy HF (yl_build HF rfl (ps := [(0, .slice (some ⟨b2, 0, none⟩) 0 0)]) rfl (cs := #[.slice (some ⟨b2, 0, none⟩) 0 0]) (by kernel_rfl)) ?_; clear HF a; intro a HF
 refine wl_alloc rfl HF rfl rfl rfl (Z := [.slice none 0 0]) (by kernel_rfl) rfl HS.out ?_; clear HF HS a; intro a w3 b3 HF HS; replace HS := Bx.mk HS
 refine wl_storeBox rfl HF rfl rfl (HF.ev rfl) (HF.ev rfl) HS.out 0 rfl (cells_lit [.slice (some ⟨b2, 0, none⟩) 0 0] rfl rfl) (by kernel_rfl) ?_; clear HS; intro w4 HS; replace HS := Bx.mk HS
 have HS : Bx (St w0 ([boxA b3 1 34 (.agg #[.slice (some ⟨b2, 0, none⟩) 0 0]), boxA b1 1 34 (.agg #[.slice none 0 0])]) _) := HS
 refine wl_ne ?_
 refine wp_seq ?_
 refine wp_sr ?_
 refine za HF ?_; clear HF a; intro a HF
 refine wl_ne ?_
 refine wp_block ?_
 replace HS := Bx.mk ((HS.out.hdNil).nilRow HD.cells 3 94 (some ⟨b2, 0, none⟩))
 refine wc_loop (ι := Nat) (fun k a w => ∃ (ao : Option Addr) (cp : Nat) (qs : List HD), (k ≤ 3 ∧ qs.length = k ∧ dsOf qs = List.replicate k newD) ∧ Fr 16 a [(0, .pointer (some ⟨b1, 0, none⟩)), (1, .pointer (some ⟨b3, 0, none⟩)), (2, .int .i64 (k : Int))] ∧ St w0 ([rowA HD.cells 3 94 (.slice ao qs.length cp) qs, sepA (qs.map HD.asr), boxA b3 1 34 (.agg #[.slice ao qs.length cp]), boxA b1 1 34 (.agg #[.slice none 0 0])]) w) (fun k => 3 - k) 0 ⟨_, _, [], ⟨Nat.zero_le _, rfl, rfl⟩, HF.less _ ⟨rfl, rfl, rfl, trivial⟩, HS.out⟩ ?_
 clear HF HS; clear a
 rintro k a w5 ⟨ao, cp, qs, ⟨hk, hql, hq⟩, HF, HS⟩
 replace HS := Bx.mk HS
 refine wp_seq ?_
 refine wp_sr ?_
 refine zm HF ?_; clear HF a; intro a HF
 refine zy HF (yl_lssI rfl (HF.ev rfl) (HF.ev rfl)) ?_; clear HF a; intro a HF
 refine wl_ne ?_
 refine HF.cases 6 rfl (fun cc1 _ => ?_) fun cc1 _ => ?_
 ·clear HF;rename_i HF
  have dcc1 := of_decide_eq_true cc1
  refine wc_true HF rfl ?_
  refine wp_skip ?_
  refine ex_then ?_
  refine wp_seq ?_
  refine wp_block ?_
  refine wr_marked (W := w0) (s := [sepA (qs.map HD.asr), boxA b3 1 34 (.agg #[.slice ao qs.length cp]), boxA b1 1 34 (.agg #[.slice none 0 0])]) 6 (by kernel_rfl) ?_
  have HS2 := Bx.mk HS.out.drew; replace HS := Bx.mk (show St w0 ([sepA (qs.map HD.asr), boxA b3 1 34 (.agg #[.slice ao qs.length cp]), boxA b1 1 34 (.agg #[.slice none 0 0])]) _ from (HS.out.drew.erase 0)); generalize World.drew _ = w6 at HS HS2 ⊢
  refine wm_t 0 rfl (by kernel_rfl) (by kernel_rfl) (by kernel_rfl) (fun _ _ _ h => h) (by decide) rfl HF rfl rfl (fun _ _ => (yfa 0 rfl (HF.ev rfl))) (fun _ => HS.out) ?_; clear HF a; intro a HF
  refine wm_y 1 rfl (by kernel_rfl) (by kernel_rfl) (by kernel_rfl) (fun _ _ _ h => h) (by decide) (by kernel_rfl) (by kernel_rfl) rfl HF rfl rfl (fun _ HS => (ylo (v := .slice ao qs.length cp) rfl (HF.ev rfl) (((HS.box 1 rfl).cell 0).trans rfl))) HS.out ?_; clear HF a; intro a HF
  refine wm_one 2 (by kernel_rfl) ?_
  refine wo_call rfl rfl HF rfl (enter_of Tryz.func137 (by kernel_rfl) rfl) (args := #[]) rfl (diskNew_any _) rfl rfl ?_
  rintro _ w7 ⟨⟨qa4, qc4, qb4, qe4, qd⟩, hqd, rfl, hs⟩; obtain rfl : qd = newD := hqd; refine ⟨_, rfl, ?_⟩
  replace HS := Bx.mk (HS.out.later hs.bel)
  replace HS2 := Bx.mk ((HS2.out.add hs));clear hs HF a;intro a HF
  replace HS2 : Bx (St w0 ([HD.asr ⟨qa4, qc4, qb4, qe4, newD⟩, rowA HD.cells 3 94 (.slice ao qs.length cp) qs, sepA (qs.map HD.asr), boxA b3 1 34 (.agg #[.slice ao qs.length cp]), boxA b1 1 34 (.agg #[.slice none 0 0])]) _) := ⟨HS2.out⟩
  refine ⟨fun _ => HS.out, ?_⟩
  refine wm_one 3 (by kernel_rfl) ?_
  refine wo_buildS (enc := HD.cells) (e := 94) (size := 3) rfl rfl HF rfl rfl rfl (ps := [(0, .agg #[.slice qa4 newD.fCells.length qc4, .slice qb4 newD.fWaits.length qe4, .bool newD.fGone])]) rfl (cells := [.slice qa4 newD.fCells.length qc4, .slice qb4 newD.fWaits.length qe4, .bool newD.fGone]) (by kernel_rfl) [(⟨qa4, qc4, qb4, qe4, newD⟩ : HD)] rfl rfl (by unfold maxLen; omega) rfl HS2.out HS.out ?_; clear HF HS HS2 a; intro b5 a w8 HF HS2 HS; replace HS := Bx.mk HS; replace HS2 := Bx.mk HS2; refine ⟨fun _ => HS.out, ?_⟩
  refine wm_one 4 (by kernel_rfl) ?_
  refine wo_appL rfl rfl HF rfl rfl rfl (HF.ev rfl) (HF.ev rfl) elemD HD.cells_len HS2.out 2 (xs := qs) rfl (ys := [(⟨qa4, qc4, qb4, qe4, newD⟩ : HD)]) (St.rdN HS2.out HD.cells_len 0 rfl) (cells_one_D _) (by unfold maxLen; simp only [List.length_cons, List.length_nil]; omega) (by simp only [List.length_cons, List.length_nil]; omega) ?_; clear HF HS HS2 a; intro ao6 cp7 w9 a HF HS2; replace HS2 := Bx.mk HS2
  replace HS2 : Bx (St w0 ([rowA HD.cells 3 94 (.slice (some ⟨b5, 0, none⟩) 1 1) ([(⟨qa4, qc4, qb4, qe4, newD⟩ : HD)]), HD.asr ⟨qa4, qc4, qb4, qe4, newD⟩, rowA HD.cells 3 94 (.slice ao6 (qs.length + ([(⟨qa4, qc4, qb4, qe4, newD⟩ : HD)]).length) cp7) (qs ++ ([(⟨qa4, qc4, qb4, qe4, newD⟩ : HD)])), sepA (qs.map HD.asr), boxA b3 1 34 (.agg #[.slice ao qs.length cp]), boxA b1 1 34 (.agg #[.slice none 0 0])]) _) := ⟨HS2.out⟩
  have HS : Bx (St w0 ([sepA (qs.map HD.asr), boxA b3 1 34 (.agg #[.slice ao qs.length cp]), boxA b1 1 34 (.agg #[.slice none 0 0])]) _) := ⟨(((HS2.out.erase 2).erase 1).erase 0)⟩
  refine ⟨fun _ => HS.out, ?_⟩
  refine wm_t 5 rfl (by kernel_rfl) (by kernel_rfl) (by kernel_rfl) (fun _ _ _ h => h) (by decide) rfl HF rfl rfl (fun _ _ => (yfa 0 rfl (HF.ev rfl))) (fun _ => HS.out) ?_; clear HF a; intro a HF
  refine wm_one 6 (by kernel_rfl) ?_
  refine wo_storeF rfl rfl rfl rfl (HF.ev rfl) (HF.ev rfl) (by kernel_rfl) HS2.out 4 rfl rfl rfl ?_
  clear HS2; intro w10 HS2; replace HS2 : Bx (St w0 ([rowA HD.cells 3 94 (.slice (some ⟨b5, 0, none⟩) 1 1) ([(⟨qa4, qc4, qb4, qe4, newD⟩ : HD)]), HD.asr ⟨qa4, qc4, qb4, qe4, newD⟩, rowA HD.cells 3 94 (.slice ao6 (qs.length + ([(⟨qa4, qc4, qb4, qe4, newD⟩ : HD)]).length) cp7) (qs ++ ([(⟨qa4, qc4, qb4, qe4, newD⟩ : HD)])), sepA (qs.map HD.asr), boxA b3 1 34 (.agg #[.slice ao6 (qs.length + ([(⟨qa4, qc4, qb4, qe4, newD⟩ : HD)]).length) cp7]), boxA b1 1 34 (.agg #[.slice none 0 0])]) _) := ⟨HS2⟩; refine ⟨(fun h => absurd (show true = false from h) (by decide)), ?_⟩
  refine wm_done (by kernel_rfl) ?_
  clear HS; have HS := HS2; clear HS2
  refine ex_block ?_
  refine ex_then ?_
  refine wp_region_lit ?_
  refine zm HF ?_; clear HF a; intro a HF
  refine zy HF (yl_addI rfl (HF.ev rfl) (HF.ev rfl) (i64w (by omega))) ?_; clear HF a; intro a HF
  refine za HF ?_; clear HF a; intro a HF
  refine wl_ne ?_
  have hz : qs.length + [(⟨qa4, qc4, qb4, qe4, newD⟩ : HD)].length = (qs ++ [(⟨qa4, qc4, qb4, qe4, newD⟩ : HD)]).length := (List.length_append ..).symm
  rw [hz] at HS
  replace HS := Bx.mk (St.hdSnoc (((HS.out).pick 3 rfl).pick 2 rfl))
  replace HS := Bx.mk (((((((HS.out).pick 4 rfl).pick 4 rfl).pick 2 rfl).pick 4 rfl).erase 4))
  have hnext : dsOf (qs ++ [(⟨qa4, qc4, qb4, qe4, newD⟩ : HD)]) = List.replicate (k + 1) newD := by rw [dsOf_append, hq, List.replicate_succ']; rfl
  exact ⟨k + 1, ⟨_, _, qs ++ [(⟨qa4, qc4, qb4, qe4, newD⟩ : HD)], ⟨by omega, by rw [List.length_append]; show qs.length + 1 = k + 1; omega, hnext⟩, HF.less _ ⟨rfl, rfl, rfl, trivial⟩, HS.out⟩, (by omega)⟩
 ·clear HF;rename_i HF
  have dcc1 := of_decide_eq_false cc1
  refine wc_false HF rfl ?_
  refine wp_exit ?_
  refine ex_then_exit ?_
  refine ex_then_exit ?_
  refine ex_block_hit ?_
  refine ex_then ?_
  refine wp_sr ?_
  refine zy HF (ylr (cs := [.slice ao qs.length cp]) rfl (HF.ev rfl) ((HS.out.box 2 rfl).sub 0 1)) ?_; clear HF a; intro a HF
  refine wl_storeBox rfl HF rfl rfl (HF.ev rfl) (HF.ev rfl) HS.out 3 rfl (cells_lit [.slice ao qs.length cp] rfl rfl) (by kernel_rfl) ?_; clear HS; intro w11 HS; replace HS := Bx.mk HS
  have HS : Bx (St w0 ([rowA HD.cells 3 94 (.slice ao qs.length cp) qs, sepA (qs.map HD.asr), boxA b3 1 34 (.agg #[.slice ao qs.length cp]), boxA b1 1 34 (.agg #[.slice ao qs.length cp])]) _) := HS
  refine wl_ne ?_
  refine wp_ret ?_
  refine bp_ret1 HF Tryz.results93 (HF.resBox rfl (HS.out.box 3 rfl) (by kernel_rfl)) ?_
  replace HS : Bx (St w0 ([rowA HD.cells 3 94 (.slice ao qs.length cp) qs, sepA (qs.map HD.asr), boxA b3 1 34 (.agg #[.slice ao qs.length cp]), boxA b1 1 34 (.agg #[.slice ao qs.length cp])]) _) := ⟨((HS.out).pick 1 rfl).pick 1 rfl⟩
  obtain rfl : k = 3 := by omega
  replace HS := Bx.mk ((HS.out.erase 3).erase 2)
  obtain ⟨g, rfl, _, _, _, _⟩ := HS.out.rowOpen 0 rfl (by omega)
  exact ⟨g, cp, qs, hq, rfl, HS.out⟩

end Go.Proofs.YtoaopmkbfifhaaaGreatDoor

/- Sets of disks: read, owned, apart. -/
namespace Go.Proofs.YtoaopmkbfifhaaaGreatDoor
set_option linter.unusedVariables false
set_option linter.unusedSimpArgs false
set_option maxHeartbeats 1000000
set_option maxRecDepth 100000
open Go.RowKit

structure RaidD where
  fDisks : List DiskD
def RaidD.Reads (w : World) (v : Value) (x : RaidD) : Prop := ∃ (a : Option Addr) (c : Nat) (ps : List HD), v = .agg #[.slice a ps.length c] ∧ dsOf ps = x.fDisks ∧ Rd HD.cells 3 w a ps.length ps ∧ ∀ k, k < ps.length → (ps.getD k default).reads w
theorem RaidD.Reads.below {w w' : World} {v : Value} {x : RaidD} (h : RaidD.Reads w v x) (hb : Below w.heap.size w w') : RaidD.Reads w' v x := by
  obtain ⟨a, c, ps, e, hx, hr, hp⟩ := h
  exact ⟨a, c, ps, e, hx, hr.below hb, fun k hk => (hp k hk).below hb⟩
/-- The slices of a disk, of a set of disks. -/
def HD.vs (p : HD) : List Value := [.slice p.a0 p.d.fCells.length p.c0, .slice p.a1 p.d.fWaits.length p.c1]
def vsOf (a : Option Addr) (c : Nat) (ps : List HD) : List Value := .slice a ps.length c :: ps.flatMap HD.vs
def HD.own (w : World) (B B1 : Nat) (p : HD) : Prop := RowO encS 1 9 w B B1 (.slice p.a0 p.d.fCells.length p.c0) p.d.fCells ∧ RowO WaitD.cells 2 137 w B B1 (.slice p.a1 p.d.fWaits.length p.c1) p.d.fWaits
def RaidD.Own (w : World) (B B1 : Nat) (v : Value) (x : RaidD) : Prop := ∃ (a : Option Addr) (c : Nat) (ps : List HD), v = .agg #[.slice a ps.length c] ∧ dsOf ps = x.fDisks ∧ RowO HD.cells 3 94 w B B1 (.slice a ps.length c) ps ∧ (∀ p, p ∈ ps → p.own w B B1) ∧ (vsOf a c ps).Pairwise Apart
theorem RaidD.Own.cells {w : World} {B B1 : Nat} {v : Value} {x : RaidD} (h : RaidD.Own w B B1 v x) : Cells 1 v := by
  obtain ⟨a, c, ps, rfl, _⟩ := h
  exact cells_lit [_] rfl rfl
theorem RaidD.Own.rd {w : World} {B B1 : Nat} {v : Value} {x : RaidD} (h : RaidD.Own w B B1 v x) : RaidD.Reads w v x := by
  obtain ⟨a, c, ps, e, hx, hr, hp, ha⟩ := h
  refine ⟨a, c, ps, e, hx, ?_, fun k hk => ?_⟩
  · obtain ⟨u, e0, k0, d0⟩ := hr.rd HD.cells_len
    simp only [Value.slice.injEq, true_and] at k0
    obtain ⟨rfl, rfl⟩ := k0
    exact d0
  · rw [getD_get hk]
    obtain ⟨h1, h2⟩ := hp _ (List.getElem_mem hk)
    obtain ⟨u, e0, k0, d0⟩ := h1.rd encS_len
    simp only [Value.slice.injEq, true_and] at k0
    obtain ⟨rfl, rfl⟩ := k0
    obtain ⟨u, e0, k0, d1⟩ := h2.rd WaitD.cells_len
    simp only [Value.slice.injEq, true_and] at k0
    obtain ⟨rfl, rfl⟩ := k0
    exact ⟨d0, d1⟩
def blk (v : Value) : List Nat := (Value.rowBlock v).toList
theorem sep_hds {w : World} : ∀ {ps : List HD} {f : List Nat}, sepP (ps.map HD.asr) w f → f = (ps.flatMap HD.vs).flatMap blk ∧ ∀ p, p ∈ ps → ∃ B1, p.own w 0 B1
  | [], f, h => ⟨h, fun _ h => by cases h⟩
  | p :: ps, f, h => by
    obtain ⟨f1, f2, rfl, ⟨g1, g2, rfl, ⟨e1, B1, r1⟩, ⟨g3, g4, rfl, ⟨e3, B3, r3⟩, e4⟩⟩, h2⟩ := h
    obtain ⟨e2, h3⟩ := sep_hds h2
    refine ⟨?_, fun q hq => ?_⟩
    · have e4 : g4 = [] := e4
      rw [e1, e2, e3, e4]
      simp [HD.vs, blk]
    · rcases List.mem_cons.1 hq with rfl | hq
      · exact ⟨max B1 B3, r1.mono (Nat.le_refl _) (by omega), r3.mono (Nat.le_refl _) (by omega)⟩
      · exact h3 q hq
end Go.Proofs.YtoaopmkbfifhaaaGreatDoor
