/- A part of the proof in YtfijfjjleelphaaHealZ16. -/
import Derived.ArgAppend
import Derived.BigQuiet
import Derived.BigRegion
import Derived.Deep.AppendLies
import Derived.Deep.MidRow
import Derived.Deep.Quiet
import Derived.Deep.QuietTactic
import Derived.Deep.RegionHeld3
import Derived.Deep.RegionWith
import Derived.IntWalk
import Derived.Laws.BytesArg
import Derived.Lib.Hide
import Derived.Lib.LazyBuf
import Derived.LoopIn
import Derived.LoopN
import Derived.LoopNIn
import Derived.Orders
import Derived.OrdersHeld
import Derived.OwnWalkIn
import Derived.RangeFuncLeaves
import Derived.RangeFuncNested
import Derived.Shelf.Abstract
import Derived.Still
import Derived.StillTail
import Derived.StillTailTactics
import Derived.TacticsInMore
import Derived.Test.YtfijfjjleelphaaRows
import Derived.WalkKit
import Derived.WalkLawsBesides
import Derived.WalkSpells
import Derived.Test.YtfijfjjleelphaaHealZ11
/- What a disk shows, by the program: a range over a function. -/
namespace Go.Proofs.Ytfijfjjleelphaa
open Go.RowKit Go.Shelf

attribute [local go_sem] Oper.semAt_some

/-- What has come when k rounds are over: the last one first. -/
def uptoB (ws : List WaitD) (k : Nat) : List (Nat × WaitD) := (List.range k).map fun j => (ws.length - 1 - j, ws.getD (ws.length - 1 - j) default)
theorem uptoB_succ (ws : List WaitD) (k : Nat) : uptoB ws (k + 1) = uptoB ws k ++ [(ws.length - 1 - k, ws.getD (ws.length - 1 - k) default)] := by simp [uptoB, List.range_succ]
theorem uptoB_len (ws : List WaitD) (k : Nat) : (uptoB ws k).length = k := by simp [uptoB]
def encB2 (x : Nat × WaitD) : Array Value := #[.int .i64 (x.1 : Int), .agg #[.int .i64 x.2.fAt, .string x.2.fText]]

set_option maxRecDepth 100000 in
set_option maxHeartbeats 2000000 in
theorem backward1_in (F : Fence) (n : Nat) (h7 : F.fn 163) (hro : F.round = none) (hn : 1 ≤ n) (l Bs n₀ b off cap : Nat) (ws : List WaitD) (hreach : ws.length ≤ 1048576) (hb : b < n₀) (J Jx : List (Nat × WaitD) → World → Prop)
    (hY : ∀ pre x W, J pre W → pre.length < ws.length → YieldAt F (n - 1) Try.prog l (encB2 x) W fun e W' =>
      (e = .returned (.bool true) ∧ J (pre ++ [x]) W' ∧ Below n₀ W W') ∨ (e = .returned (.bool false) ∧ Jx (pre ++ [x]) W'))
    (W : World) (hBs : W.cell? ⟨Bs, 0, none⟩ = some (.slice (some ⟨b, off, none⟩) ws.length cap)) (hBn : Bs < n₀) (hc : ∀ j, j < ws.length → W.cell? ⟨b, off + j * 2, none⟩ = some (.int .i64 (ws.getD j default).fAt) ∧ W.cell? ⟨b, off + j * 2 + 1, none⟩ = some (.string (ws.getD j default).fText)) (h0 : J [] W) :
    CallsIn F n Try.prog 163 #[.func (.yield l) #[] #[], .pointer (some ⟨Bs, 0, none⟩)] W fun e W' => (∃ v, e = .returned v) ∧
      ((∃ ys, ys = uptoB ws ws.length ∧ J ys W') ∨ (∃ pre, (∃ k, k ≤ ws.length ∧ pre = uptoB ws k) ∧ Jx pre W')) := by
  refine callsIn_of_wp Try.func163 rfl h7 ?_ hro
  simp only [Try.ntmps163, List.size_toArray, List.length_cons, List.length_nil, Nat.reduceAdd, Nat.reduceSub, Array.replicate_succ, Array.replicate_zero, List.push_toArray, List.append_toArray, List.nil_append, List.cons_append]
  gi_wp2
  gi_loopw [3] (fun i wr => ∃ (m : Nat) (z : Int), m ≤ ws.length ∧ i = .int .i64 z ∧ z = (m : Int) - 1 ∧ J (uptoB ws (ws.length - m)) wr ∧ Below n₀ W wr)
    (fun i _ => ((intOf i) + 1).toNat)
  case atStart => exact ⟨ws.length, _, Nat.le_refl _, rfl, by rfl, by rw [Nat.sub_self]; exact h0, Below.refl _ _⟩
  case round =>
    obtain ⟨m, z, hk, rfl, hz, hJs, hnx⟩ := hrel
    have hBs' := (hnx.cell (p := ⟨Bs, 0, none⟩) hBn).trans hBs
    cases m with
    | zero =>
      have hneg : z < 0 := by omega
      clear hz
      gi_wp2
      go_end0
      exact ⟨⟨_, rfl⟩, .inl ⟨_, rfl, hJs⟩⟩
    | succ m =>
      obtain rfl : z = (m : Int) := by omega
      have hc1 := (hnx.cell (p := ⟨b, off + m * 2, none⟩) hb).trans (hc m (by omega)).1
      have hc2 := (hnx.cell (p := ⟨b, off + m * 2 + 1, none⟩) hb).trans (hc m (by omega)).2
      obtain ⟨fn, tmps, assign, body, hy, hR⟩ := hY _ (m, ws.getD m default) wr hJs (by rw [uptoB_len]; omega)
      have hm : ws.length - 1 - (ws.length - (m + 1)) = m := by omega
      have hnext : uptoB ws (ws.length - (m + 1)) ++ [(m, ws.getD m default)] = uptoB ws (ws.length - m) := by
        rw [show ws.length - m = ws.length - (m + 1) + 1 by omega, uptoB_succ, hm]
      rw [hnext] at hR
      dsimp only [encB2] at hy
      clear hc hnext hm hY
      generalize ws.getD m default = x at hc1 hc2 hy hR
      have hpos : (0 : Int) ≤ (m : Int) := by omega
      clear hz
      gi_wp2
      refine hR.mono ?_
      rintro e W3 (⟨rfl, hJ3, hk3⟩ | ⟨rfl, hJx3⟩)
      · gi_wp2
        go_roundw
        case rel => exact ⟨m, _, by omega, rfl, rfl, hJ3, hnx.trans hk3⟩
        case measure => simp [intOf]
      · gi_wp2
        refine bodyPost_ret (results_none rfl _ _ _) rfl ?_
        exact ⟨⟨_, rfl⟩, .inr ⟨_, ⟨ws.length - m, by omega, rfl⟩, hJx3⟩⟩

set_option maxRecDepth 100000 in
set_option maxHeartbeats 1000000 in
theorem backward1_nil_in (F : Fence) (n : Nat) (h7 : F.fn 163) (hro : F.round = none) (l Bs cap : Nat) (ao : Option Addr) (J : List (Nat × WaitD) → World → Prop) (W : World) (hBs : W.cell? ⟨Bs, 0, none⟩ = some (.slice ao 0 cap)) (h0 : J [] W) :
    CallsIn F n Try.prog 163 #[.func (.yield l) #[] #[], .pointer (some ⟨Bs, 0, none⟩)] W fun e W' => (∃ v, e = .returned v) ∧ J [] W' := by
  refine callsIn_of_wp Try.func163 rfl h7 ?_ hro
  simp only [Try.ntmps163, List.size_toArray, List.length_cons, List.length_nil, Nat.reduceAdd, Nat.reduceSub, Array.replicate_succ, Array.replicate_zero, List.push_toArray, List.append_toArray, List.nil_append, List.cons_append]
  gi_wp2
  gi_loopw [3] (fun i wr => (∃ z : Int, z < 0 ∧ i = .int .i64 z) ∧ J [] wr) (fun _ _ => 0)
  case atStart => exact ⟨⟨_, by decide, rfl⟩, h0⟩
  case round =>
    obtain ⟨⟨z, hneg, rfl⟩, hJs⟩ := hrel
    gi_wp2
    go_end0
    exact ⟨⟨_, rfl⟩, hJs⟩
set_option maxHeartbeats 1000000 in
theorem backward_in (F : Fence) (n : Nat) (h5 : F.fn 132) (hro : F.round = none) (a : Option Addr) (len cap : Nat) (w : World) :
    CallsIn F n Try.prog 132 #[.slice a len cap] w fun e w' => e = .returned (.func (.func 163) #[] #[.pointer (some ⟨w.heap.size, 0, none⟩)]) ∧ w' = w.alloc (.cells #[.slice a len cap] 42) := by
  refine callsIn_of_wp Try.func132 rfl h5 ?_ hro
  simp only [Try.ntmps132, List.size_toArray, List.length_cons, List.length_nil, Nat.reduceAdd, Nat.reduceSub, Array.replicate_succ, Array.replicate_zero, List.push_toArray, List.append_toArray, List.nil_append, List.cons_append]
  gi_wp2
  go_ret
  exact ⟨rfl, rfl⟩
theorem backward_stops (F : Fence) (n : Nat) (h7 : F.fn 163) (hro : F.round = none) (hn : 1 ≤ n) (Bs n₀ : Nat) (ao : Option Addr) (cap : Nat) (ws : List WaitD) (hreach : ws.length ≤ 1048576) (w : World) (hBs : Bs < n₀) (hn₀ : n₀ ≤ w.heap.size)
    (hc : w.cell? ⟨Bs, 0, none⟩ = some (.slice ao ws.length cap)) (g off : Nat) (hg : ws.length ≠ 0 → ao = some ⟨g, off, none⟩ ∧ g < n₀) (hI : ∀ j, j < ws.length → w.cell? ⟨g, off + j * 2, none⟩ = some (.int .i64 (ws.getD j default).fAt) ∧ w.cell? ⟨g, off + j * 2 + 1, none⟩ = some (.string (ws.getD j default).fText)) :
    SeqStopsK F n Try.prog 163 #[.pointer (some ⟨Bs, 0, none⟩)] encB2 (Below n₀) (fun ys => ys = uptoB ws ws.length) (fun pre => ∃ k, k ≤ ws.length ∧ pre = uptoB ws k) ws.length w := fun l J Jx W hW _ _ hY h0 => by
  have hc' := (hW.cell (p := ⟨Bs, 0, none⟩) (Nat.lt_of_lt_of_le hBs hn₀)).trans hc
  by_cases h : ws.length = 0
  · rw [h] at hc'
    refine (backward1_nil_in F n h7 hro l Bs cap ao J W hc' h0).mono ?_
    rintro e W' ⟨he, hj⟩
    exact ⟨he, .inl ⟨_, rfl, by rw [h]; exact hj⟩⟩
  · obtain ⟨rfl, hgl⟩ := hg h
    exact backward1_in F n h7 hro hn l Bs n₀ g off cap ws hreach hgl J Jx hY W hc' hBs (fun j hj => ⟨(hW.cell (p := ⟨g, off + j * 2, none⟩) (Nat.lt_of_lt_of_le hgl hn₀)).trans (hI j hj).1, (hW.cell (p := ⟨g, off + j * 2 + 1, none⟩) (Nat.lt_of_lt_of_le hgl hn₀)).trans (hI j hj).2⟩) h0
theorem look_none (ws : List WaitD) (m k : Nat) (hk : k ≤ ws.length) (h : ∀ p ∈ uptoB ws k, p.2.fAt ≠ (m : Int)) : lookW (ws.drop (ws.length - k)) m = none := by
  induction k with
  | zero => rw [Nat.sub_zero, List.drop_length]; rfl
  | succ k ih =>
    rw [uptoB_succ] at h
    have h1 := ih (by omega) (fun p hp => h p (List.mem_append_left _ hp))
    have h2 := h _ (List.mem_append_right _ (List.mem_singleton.2 rfl))
    simp only at h2
    rw [lookW_back _ _ _ (by omega), show ws.length - (k + 1) + 1 = ws.length - k by omega, h1]
    simp only
    rw [show ws.length - (k + 1) = ws.length - 1 - k by omega, if_neg h2]

set_option maxRecDepth 100000 in
set_option maxHeartbeats 2000000 in
theorem look_any (a0 : Option Addr) (c0 : Nat) (a1 : Option Addr) (c1 : Nat) (d : DiskD) (m : Nat) (w : World) (hm : m < d.fCells.length) (hw : d.fWaits.length ≤ 1048576) (hC : Rd encS 1 w a0 d.fCells.length d.fCells) (hW : Rd WaitD.cells 2 w a1 d.fWaits.length d.fWaits) :
    Calls Try.prog 73 #[.agg #[.slice a0 d.fCells.length c0, .slice a1 d.fWaits.length c1, .bool d.fGone], .int .i64 (m : Int)] w fun e w' => e = .returned (.string (d.look m)) ∧ Below w.heap.size w w' := by
  refine (callsIn_wide (n := 5)).1 ?_
  obtain ⟨g0, o0, r0⟩ := hC.opn
  obtain ⟨g1, o1, r1⟩ := hW.opn
  obtain rfl : a0 = some ⟨g0, o0, none⟩ := r0.ao m hm
  have hg0 := (r0.at_ m _ (get_getD (d := ByteArray.empty) hm)).1
  have hcell : w.cell? ⟨g0, o0 + m, none⟩ = some (.string (d.fCells.getD m ByteArray.empty)) := by
    have := (r0.at_ m _ (get_getD (d := ByteArray.empty) hm)).2 0 _ rfl
    simpa using this
  obtain ⟨tl, HT⟩ : ∃ t, d.look m = t := ⟨_, rfl⟩
  rw [HT]
  refine callsIn_of_wp_marks Try.func73 rfl trivial ?_ rfl
  simp only [Try.ntmps73, List.size_toArray, List.length_cons, List.length_nil, Nat.reduceAdd, Nat.reduceSub, Array.replicate_succ, Array.replicate_zero, List.push_toArray, List.append_toArray, List.nil_append, List.cons_append]
  gi_wp2_with (refine ⟨trivial, ?_⟩; gi_at_call 132; refine (backward_in Fence.wide _ trivial rfl _ _ _ _).mono ?_; rintro e w' ⟨rfl, rfl⟩)
  have blkN : ∀ (W : World) (o : Obj), (W.alloc o).heap[W.heap.size]? = some o := fun W o => World.alloc_heap_new W o
  have blkK : ∀ (W : World) (o : Obj) (k : Nat) (x : Obj), W.heap[k]? = some x → (W.alloc o).heap[k]? = some x := fun W o k x h => (Below.heap_alloc W o k (Array.getElem?_eq_some_iff.1 h).1).trans h
  have hD0 := blkK _ (Obj.cells #[Value.slice a1 d.fWaits.length c1] 42) _ _ (blkK _ (Obj.cells #[Value.string { data := #[] }] 9) _ _ (blkK _ (Obj.cells #[Value.int IntKind.i64 (m : Int)] 3) _ _ (blkN w (Obj.cells #[Value.slice (some ⟨g0, o0, none⟩) d.fCells.length c0, Value.slice a1 d.fWaits.length c1, Value.bool d.fGone] 44))))
  have hM0 := blkK _ (Obj.cells #[Value.slice a1 d.fWaits.length c1] 42) _ _ (blkK _ (Obj.cells #[Value.string { data := #[] }] 9) _ _ (blkN (w.alloc (Obj.cells #[Value.slice (some ⟨g0, o0, none⟩) d.fCells.length c0, Value.slice a1 d.fWaits.length c1, Value.bool d.fGone] 44)) (Obj.cells #[Value.int IntKind.i64 (m : Int)] 3)))
  have hR0 := blkK _ (Obj.cells #[Value.slice a1 d.fWaits.length c1] 42) _ _ (blkN ((w.alloc (Obj.cells #[Value.slice (some ⟨g0, o0, none⟩) d.fCells.length c0, Value.slice a1 d.fWaits.length c1, Value.bool d.fGone] 44)).alloc (Obj.cells #[Value.int IntKind.i64 (m : Int)] 3)) (Obj.cells #[Value.string { data := #[] }] 9))
  have hS0 := blkN (((w.alloc (Obj.cells #[Value.slice (some ⟨g0, o0, none⟩) d.fCells.length c0, Value.slice a1 d.fWaits.length c1, Value.bool d.fGone] 44)).alloc (Obj.cells #[Value.int IntKind.i64 (m : Int)] 3)).alloc (Obj.cells #[Value.string { data := #[] }] 9)) (Obj.cells #[Value.slice a1 d.fWaits.length c1] 42)
  simp only [World.size_alloc] at hM0 hR0 hS0
  have hB0 : Below w.heap.size w ((((w.alloc (Obj.cells #[Value.slice (some ⟨g0, o0, none⟩) d.fCells.length c0, Value.slice a1 d.fWaits.length c1, Value.bool d.fGone] 44)).alloc (Obj.cells #[Value.int IntKind.i64 (m : Int)] 3)).alloc (Obj.cells #[Value.string { data := #[] }] 9)).alloc (Obj.cells #[Value.slice a1 d.fWaits.length c1] 42)) := ((((Below.refl _ w).alloc (Nat.le_refl _) _).alloc (by simp) _).alloc (by simp; omega) _).alloc (by simp; omega) _
  have hsz : ((((w.alloc (Obj.cells #[Value.slice (some ⟨g0, o0, none⟩) d.fCells.length c0, Value.slice a1 d.fWaits.length c1, Value.bool d.fGone] 44)).alloc (Obj.cells #[Value.int IntKind.i64 (m : Int)] 3)).alloc (Obj.cells #[Value.string { data := #[] }] 9)).alloc (Obj.cells #[Value.slice a1 d.fWaits.length c1] 42)).heap.size = w.heap.size + 4 := by simp
  obtain ⟨W0, hW0⟩ : ∃ W0, (((w.alloc (Obj.cells #[Value.slice (some ⟨g0, o0, none⟩) d.fCells.length c0, Value.slice a1 d.fWaits.length c1, Value.bool d.fGone] 44)).alloc (Obj.cells #[Value.int IntKind.i64 (m : Int)] 3)).alloc (Obj.cells #[Value.string { data := #[] }] 9)).alloc (Obj.cells #[Value.slice a1 d.fWaits.length c1] 42) = W0 := ⟨_, rfl⟩
  rw [hW0] at hD0 hM0 hR0 hS0 hB0 hsz ⊢
  clear hW0 blkN blkK
  have hcell0 := (hB0.cell (p := ⟨g0, o0 + m, none⟩) hg0).trans hcell
  have hI : ∀ j, j < d.fWaits.length → W0.cell? ⟨g1, o1 + j * 2, none⟩ = some (.int .i64 (d.fWaits.getD j default).fAt) ∧ W0.cell? ⟨g1, o1 + j * 2 + 1, none⟩ = some (.string (d.fWaits.getD j default).fText) := fun j hj => by
    obtain ⟨h1, h2⟩ := r1.at_ j _ (get_getD (d := default) hj)
    exact ⟨(hB0.cell (p := ⟨g1, o1 + j * 2, none⟩) h1).trans (by simpa using h2 0 _ rfl), (hB0.cell (p := ⟨g1, o1 + j * 2 + 1, none⟩) h1).trans (by simpa using h2 1 _ rfl)⟩
  have hg1 : d.fWaits.length ≠ 0 → a1 = some ⟨g1, o1, none⟩ ∧ g1 < W0.heap.size := fun h => ⟨r1.ao 0 (by omega), by have := (r1.at_ 0 _ (get_getD (d := default) (by omega))).1; omega⟩
  have keepC : ∀ {X Y : World} {row : Option Nat} {k : Nat} {cs : Array Value} {t : TypeId}, X.heap[k]? = some (.cells cs t (0, 0)) → X.grownBy Y row → (∀ r, row = some r → ∃ o : Obj, X.heap[r]? = some o ∧ o.isCells = false) → Y.heap[k]? = some (.cells cs t (0, 0)) := fun h hg hr => (grownBy_keeps_cells hg hr h rfl).trans h
  clear hC hW r0 r1 hcell
  refine wpIn_rangeFunc_ownH rfl (by omega) (gf := 163) (lb := #[.pointer (some ⟨w.heap.size + 1 + 1 + 1, 0, none⟩)]) rfl trivial (enters_of Try.func163 (by kernel_rfl) rfl)
    (backward_stops Fence.wide _ trivial rfl (by omega) (w.heap.size + 1 + 1 + 1) W0.heap.size a1 c1 d.fWaits hw W0 (by omega) (Nat.le_refl _) (by simp [World.cell?, hS0]) g1 o1 hg1 hI) belowK_t (belowK_b (Nat.le_refl _)) (Below.refl _ _) (fun _ => rfl)
    (fun pre W => ((∀ p ∈ pre, p.2.fAt ≠ (m : Int)) ∧ W.heap[w.heap.size]? = some (.cells #[Value.slice (some ⟨g0, o0, none⟩) d.fCells.length c0, Value.slice a1 d.fWaits.length c1, Value.bool d.fGone] 44 (0, 0)) ∧ W.heap[w.heap.size + 1]? = some (.cells #[Value.int IntKind.i64 (m : Int)] 3 (0, 0)) ∧ W.heap[w.heap.size + 1 + 1]? = some (.cells #[Value.string { data := #[] }] 9 (0, 0)) ∧ W0.heap.size ≤ W.heap.size) ∧ Below w.heap.size w W)
    (fun c pre W => (c = .ret ∧ ∃ ini last, pre = ini ++ [last] ∧ (∀ p ∈ ini, p.2.fAt ≠ (m : Int)) ∧ last.2.fAt = (m : Int) ∧ Boxed W (w.heap.size + 1 + 1) 9 (.string last.2.fText)) ∧ Below w.heap.size w W)
    (OwnFrom.and (Own.from (fun s A B row hs hg hr => ⟨hs.1, keepC hs.2.1 hg hr, keepC hs.2.2.1 hg hr, keepC hs.2.2.2.1 hg hr, Nat.le_trans hs.2.2.2.2 hg.size⟩) _) (ownFrom_below (Nat.le_refl _) (by omega)))
    (fun c => OwnFrom.and (Own.from (fun s A B row hs hg hr => by obtain ⟨hc, ini, last, e1, e2, e3, e4⟩ := hs; exact ⟨hc, ini, last, e1, e2, e3, keepC e4 hg hr⟩) _) (ownFrom_below (Nat.le_refl _) (by omega)))
    ⟨⟨by simp, hD0, hM0, hR0, Nat.le_refl _⟩, hB0⟩
    (fun x a' W => ∃ Bx, W0.heap.size ≤ Bx ∧ W.heap[Bx]? = some (.cells #[.int .i64 x.2.fAt, .string x.2.fText] 144 (0, 0)) ∧ a' = { tmps := #[Value.agg #[Value.slice (some ⟨g0, o0, none⟩) d.fCells.length c0, Value.slice a1 d.fWaits.length c1, Value.bool d.fGone],
          Value.int IntKind.i64 (m : Int), Value.pointer (some ⟨w.heap.size, 0, none⟩), Value.pointer (some ⟨w.heap.size + 1, 0, none⟩), Value.pointer (some ⟨w.heap.size + 1 + 1, 0, none⟩), undef, Value.pointer (some ⟨Bx, 0, none⟩),
          Value.pointer (some ⟨w.heap.size, 1, none⟩), Value.slice a1 d.fWaits.length c1,
          Value.func (Fn.func 163) #[] #[Value.pointer (some ⟨w.heap.size + 1 + 1 + 1, 0, none⟩)], .int .i64 (x.1 : Int), .agg #[.int .i64 x.2.fAt, .string x.2.fText], undef, undef, undef, undef, undef, undef, undef, undef, undef, undef, undef], defers := [] })
    (fun x a' => Own.from (fun s A B row hs hg hr => by obtain ⟨Bx, h1, h2, h3⟩ := hs; exact ⟨Bx, h1, keepC h2 hg hr, h3⟩) _)
    ?assign ?body ?done ?stop
  case assign =>
    rintro l pre x W K ⟨⟨hp, hD, hM, hR, hZ⟩, hB⟩ hK
    clear hD0 hM0 hR0 hS0 hI hcell0 hg1
    dsimp only [encB2]
    gi_wp2
    have hk : ∀ (k : Nat) (o : Obj), W.heap[k]? = some o → (W.alloc (Obj.cells #[Value.int IntKind.i64 x.snd.fAt, Value.string x.snd.fText] 144)).heap[k]? = some o := fun k o h => (Below.heap_alloc W _ k (Array.getElem?_eq_some_iff.1 h).1).trans h
    exact hK _ _ ((KeepsOthers.alloc _ _).from _) ((Below.refl _ _).alloc hZ _) ⟨⟨hp, hk _ _ hD, hk _ _ hM, hk _ _ hR, by simp; omega⟩, hB.alloc hB.size _⟩ ⟨W.heap.size, hZ, World.alloc_heap_new W _, rfl⟩
  case body =>
    rintro l pre x a' W hl ⟨r, hr⟩ ⟨⟨hp, hD, hM, hR, hZ⟩, hB⟩ ⟨Bx, hBx, hX, rfl⟩ hlt
    clear hD0 hM0 hR0 hS0 hI hcell0 hg1
    have hx0 : W.cell? ⟨Bx, 0, none⟩ = some (.int .i64 x.2.fAt) := by simp [World.cell?, hX]
    have hx1 : W.cell? ⟨Bx, 1, none⟩ = some (.string x.2.fText) := by simp [World.cell?, hX]
    have hm0 : W.cell? ⟨w.heap.size + 1, 0, none⟩ = some (.int .i64 (m : Int)) := by simp [World.cell?, hM]
    have hr0 : W.cell? ⟨w.heap.size + 1 + 1, 0, none⟩ = some (.string { data := #[] }) := by simp [World.cell?, hR]
    have hf0 : W.frozen? ⟨w.heap.size + 1 + 1, 0, none⟩ = false := by simp [World.frozen?, hR]
    gi_wp2
    · have hx : x.2.fAt = (m : Int) := eq_of_beq (by assumption)
      exact ⟨(KeepsOthers.setCell _ _ _).from _, ⟨rfl, pre, x, rfl, hp, hx, Boxed.set _ hR⟩, hB.setCell (p := ⟨w.heap.size + 1 + 1, 0, none⟩) (by show _ ≤ w.heap.size + 1 + 1; omega) _⟩
    · have hx : x.2.fAt ≠ (m : Int) := ne_of_beq_false (by assumption)
      exact ⟨KeepsFrom.refl _ _, Below.refl _ _, ⟨fun p hp' => (List.mem_append.1 hp').elim (hp p) (fun e => by simp at e; subst e; exact hx), hD, hM, hR, hZ⟩, hB⟩
  case done =>
    rintro D ys W hD rfl ⟨⟨hp, hDk, hM, hR, hZ⟩, hB⟩ hK
    have hl := look_none d.fWaits m d.fWaits.length (Nat.le_refl _) hp
    rw [Nat.sub_self, List.drop_zero] at hl
    have hlook : tl = d.fCells.getD m ByteArray.empty := by rw [← HT]; unfold DiskD.look; rw [hl]; rfl
    rw [← hlook] at hcell0
    clear hD0 hM0 hR0 hS0 hI hg1 hp hl hlook HT
    have hd0 : W.cell? ⟨w.heap.size, 0, none⟩ = some (Value.slice (some ⟨g0, o0, none⟩) d.fCells.length c0) := by simp [World.cell?, hDk]
    have hm0 : W.cell? ⟨w.heap.size + 1, 0, none⟩ = some (.int .i64 (m : Int)) := by simp [World.cell?, hM]
    have hr0 : W.cell? ⟨w.heap.size + 1 + 1, 0, none⟩ = some (.string { data := #[] }) := by simp [World.cell?, hR]
    have hf0 : W.frozen? ⟨w.heap.size + 1 + 1, 0, none⟩ = false := by simp [World.frozen?, hR]
    have hc0 : W.cell? ⟨g0, o0 + m, none⟩ = some (.string tl) := ((hB.cell (p := ⟨g0, o0 + m, none⟩) hg0).trans (hB0.cell (p := ⟨g0, o0 + m, none⟩) hg0).symm).trans hcell0
    clear hcell0
    gi_wp2
    have hK' := (KeepsOthers.setCell W ⟨w.heap.size + 1 + 1, 0, none⟩ (.string tl)).same D _ hK rfl
    refine ⟨by simp, .inl ⟨_, _, rfl, run_takeDeferred hK', ?_⟩⟩
    have hc5 := cell_kept (World.cell?_setCell_same' W ⟨w.heap.size + 1 + 1, 0, none⟩ (.string tl) (by rw [hr0]; rfl)) (grownBy_putObj' _ D (.deferred none)) (fun r e => by cases e; exact ⟨_, hK', rfl⟩)
    refine ⟨.string tl, ?_, rfl, (hB.setCell (p := ⟨w.heap.size + 1 + 1, 0, none⟩) (by show _ ≤ w.heap.size + 1 + 1; omega) _).trans (belowK_b (w := w) (Nat.le_refl _) _ D _ _ (by omega) hK' rfl rfl)⟩
    simp [results, Try.f73, go_sem, hc5]
  case stop =>
    rintro D c pre W hD ⟨k, hk, rfl⟩ ⟨⟨rfl, ini, last, e1, e2, e3, hcr⟩, hB⟩ hK
    have hlook : tl = last.2.fText := by
      rw [← HT]
      cases k with
      | zero => simp [uptoB] at e1
      | succ k =>
        rw [uptoB_succ] at e1
        obtain ⟨rfl, e5⟩ := List.append_inj' e1 rfl
        obtain rfl : (d.fWaits.length - 1 - k, d.fWaits.getD (d.fWaits.length - 1 - k) default) = last := by simpa using e5
        have hl := look_none d.fWaits m k (by omega) e2
        have hf : lookW d.fWaits m = some (d.fWaits.getD (d.fWaits.length - 1 - k) default).fText := by
          refine lookW_found _ _ (d.fWaits.length - 1 - k) _ ?_
          rw [lookW_back _ _ _ (by omega), show d.fWaits.length - 1 - k + 1 = d.fWaits.length - k by omega, hl]
          simp only at e3 ⊢
          rw [if_pos e3]
        unfold DiskD.look
        rw [hf]; rfl
    rw [← hlook] at hcr
    clear hD0 hM0 hR0 hS0 hI hg1 e1 e2 e3 hlook HT
    have hcc := hcr.cell
    gi_wp2
    refine ⟨by simp, .inl ⟨_, _, rfl, run_takeDeferred hK, ?_⟩⟩
    have hc5 := cell_kept hcc (grownBy_putObj' _ D (.deferred none)) (fun r e => by cases e; exact ⟨_, hK, rfl⟩)
    refine ⟨_, ?_, rfl, hB.trans (belowK_b (w := w) (Nat.le_refl _) W D _ _ (by omega) hK rfl rfl)⟩
    simp [results, Try.f73, go_sem, hc5]
end Go.Proofs.Ytfijfjjleelphaa

/- Disks in rows; the first place at which a function says yes. -/
namespace Go.Proofs.Ytfijfjjleelphaa
open Go.RowKit

/-- A disk's header beside its datum. -/
structure HD where
  a0 : Option Addr
  c0 : Nat
  a1 : Option Addr
  c1 : Nat
  d : DiskD
def HD.cells (p : HD) : List Value := [.slice p.a0 p.d.fCells.length p.c0, .slice p.a1 p.d.fWaits.length p.c1, .bool p.d.fGone]
theorem HD.cells_len (p : HD) : p.cells.length = 3 := rfl
instance : Inhabited DiskD := ⟨⟨[], [], false⟩⟩
instance : Inhabited HD := ⟨⟨none, 0, none, 0, default⟩⟩
structure HD.reads (w : World) (p : HD) : Prop where
  rc : Rd encS 1 w p.a0 p.d.fCells.length p.d.fCells
  rw : Rd WaitD.cells 2 w p.a1 p.d.fWaits.length p.d.fWaits
theorem HD.reads.below {w w' : World} {p : HD} (h : p.reads w) (hb : Below w.heap.size w w') : p.reads w' := ⟨h.rc.below hb, h.rw.below hb⟩
def HD.asr (p : HD) : Asr := sepA [rowA encS 1 9 (.slice p.a0 p.d.fCells.length p.c0) p.d.fCells, rowA WaitD.cells 2 144 (.slice p.a1 p.d.fWaits.length p.c1) p.d.fWaits]

set_option maxHeartbeats 1000000 in
set_option maxRecDepth 100000 in
theorem indexFuncW_any (a0 : Option Addr) (c0 : Nat) (xs : List WaitD) (f : FuncId) (caps : Array Value) (p : Nat → Bool) (w0 : World) (hl : xs.length ≤ 1048576) (HE : ∀ (args : Array Value) (w : World), (callFunc f args).run Try.prog w = .ok (.enter f args) w) (hR : Rd WaitD.cells 2 w0 a0 xs.length xs) (hf : ∀ k, k < xs.length → ∀ w, Below w0.heap.size w0 w → Calls Try.prog f (#[] ++ #[.agg #[.int .i64 ((xs.getD k default).fAt), .string ((xs.getD k default).fText)]] ++ caps) w fun e w' => e = .returned (.bool (p k)) ∧ Below w.heap.size w w') : Calls Try.prog 162 #[.slice a0 xs.length c0, .func (.func f) #[] caps] w0 fun e w' => e = .returned (.int .i64 (idxB p xs.length 0)) ∧ Below w0.heap.size w0 w' := by
  have HR := Bx.mk hR; have HF0 := Bx.mk hf; clear hR hf
  have HS := Bx.mk (St.start w0)
  refine wc_enter Try.func162 rfl Try.ntmps162 [(0, .slice a0 xs.length c0), (1, .func (.func f) #[] caps)] ⟨rfl, rfl, trivial⟩ rfl ?_; intro a HF
  refine wp_seq ?_
  refine wp_region_lit ?_
  refine wl_y rfl HF rfl rfl (yl_assign rfl (HF.ev rfl)) ?_; clear HF; clear a; intro a HF
  refine wpList_nil ?_
  refine ex_then ?_
  refine wp_seq ?_
  refine wp_seq ?_
  refine wp_region_lit ?_
  refine wl_y rfl HF rfl rfl (yl_move rfl (HF.ev rfl)) ?_; clear HF; clear a; intro a HF
  refine wl_y rfl HF rfl rfl (yl_lenL (e := 144) (size := 2) rfl (HF.ev rfl) (by kernel_rfl)) ?_; clear HF; clear a; intro a HF
  refine wl_y rfl HF rfl rfl (yl_move rfl (HF.ev rfl)) ?_; clear HF; clear a; intro a HF
  refine wpList_nil ?_
  refine ex_then ?_
  refine wp_block ?_
  refine wc_loop (ι := Nat) (fun k a w => (k ≤ xs.length ∧ idxB p xs.length 0 = idxB p xs.length k) ∧ Fr 19 a [(0, .slice a0 xs.length c0), (1, .func (.func f) #[] caps), (7, .int .i64 (xs.length : Int)), (8, .int .i64 (k : Int))] ∧ St w0 ([]) w) (fun k => xs.length - k) 0 ⟨⟨Nat.zero_le _, rfl⟩, HF.less _ ⟨rfl, rfl, rfl, rfl, trivial⟩, HS.out⟩ ?_
  clear HF HS; clear a
  rintro k a w1 ⟨⟨hk, hf⟩, HF, HS⟩
  replace HS := Bx.mk HS
  refine wp_seq ?_
  refine wp_region_lit ?_
  refine wl_y rfl HF rfl rfl (yl_lssI rfl (HF.ev rfl) (HF.ev rfl)) ?_; clear HF; clear a; intro a HF
  refine wpList_nil ?_
  refine ex_then ?_
  refine wp_seq ?_
  refine HF.cases 9 rfl (fun cc1 HF1 => ?_) (fun cc1 HF1 => ?_)
  · clear HF; have HF := HF1; clear HF1
    have dcc1 := of_decide_eq_true cc1
    refine wc_true HF rfl ?_
    refine wp_skip ?_
    refine ex_then ?_
    refine wp_seq ?_
    refine wp_block ?_
    refine wp_seq ?_
    refine wp_region_lit ?_
    refine wl_y rfl HF rfl rfl (yl_move rfl (HF.ev rfl)) ?_; clear HF; clear a; intro a HF
    refine wl_y rfl HF rfl rfl (yl_assign rfl (HF.ev rfl)) ?_; clear HF; clear a; intro a HF
    refine wpList_nil ?_
    refine ex_then ?_
    refine wp_seq ?_
    obtain ⟨g0, o0, r0⟩ := HR.out.opn; have R0 := Bx.mk r0; clear r0
    refine wp_region_lit ?_
    refine wl_y rfl HF rfl rfl (yl_move rfl (HF.ev rfl)) ?_; clear HF; clear a; intro a HF
    refine wl_y rfl HF rfl rfl (yl_move rfl (HF.ev rfl)) ?_; clear HF; clear a; intro a HF
    refine wl_y rfl HF rfl rfl (yl_move rfl (HF.ev rfl)) ?_; clear HF; clear a; intro a HF
    refine wl_y rfl HF rfl rfl (yl_indexAddrR (e := 144) (i := k) (size := 2) rfl (HF.ev rfl) (HF.ev rfl) (by kernel_rfl) rfl (by omega) (R0.out.ao k (by omega))) ?_; clear HF; clear a; intro a HF
    refine wl_y rfl HF rfl rfl (yl_loadR (cs := [.int .i64 ((xs.getD k default).fAt), .string ((xs.getD k default).fText)]) rfl (HF.ev rfl) (R0.out.elem HS.out (get_getD (xs := xs) (j := k) (d := default) (by omega))) (by kernel_rfl)) ?_; clear HF; clear a; intro a HF
    refine wl_callvB rfl HF rfl (HF.ev rfl) HE (args := #[.agg #[.int .i64 ((xs.getD k default).fAt), .string ((xs.getD k default).fText)]]) rfl (v := .bool (p k)) (HF0.out k (by omega) _ HS.out.bel) rfl rfl HS.out ?_; clear HF HS; clear a; intro w2 a HS HF; replace HS := Bx.mk HS
    refine wpList_nil ?_
    refine ex_then ?_
    refine HF.cases 16 rfl (fun cc2 HF1 => ?_) (fun cc2 HF1 => ?_)
    · clear HF; have HF := HF1; clear HF1
      refine wc_true HF rfl ?_
      refine wp_seq ?_
      refine wp_region_lit ?_
      refine wl_y rfl HF rfl rfl (yl_move rfl (HF.ev rfl)) ?_; clear HF; clear a; intro a HF
      refine wl_y rfl HF rfl rfl (yl_assign rfl (HF.ev rfl)) ?_; clear HF; clear a; intro a HF
      refine wpList_nil ?_
      refine ex_then ?_
      refine wp_ret ?_
      refine ex_block_ret ?_
      refine ex_then_ret ?_
      refine ex_then_ret ?_
      refine ex_block_ret ?_
      refine ex_then_ret ?_
      refine bp_ret1 HF Try.results162 (HF.res rfl) ?_
      rw [idxB_lt (k := k) (by omega), if_pos cc2] at hf
      exact ⟨by rw [hf], HS.out.bel⟩
    · clear HF; have HF := HF1; clear HF1
      refine wc_false HF rfl ?_
      refine wp_skip ?_
      refine ex_block ?_
      refine ex_then ?_
      refine wp_region_lit ?_
      refine wl_y rfl HF rfl rfl (yl_addI rfl (HF.ev rfl) (HF.ev rfl) (i64w (by omega))) ?_; clear HF; clear a; intro a HF
      refine wl_y rfl HF rfl rfl (yl_move rfl (HF.ev rfl)) ?_; clear HF; clear a; intro a HF
      refine wpList_nil ?_
      refine ex_then ?_
      rw [idxB_lt (k := k) (by omega), if_neg (by rw [cc2]; simp)] at hf
      exact ⟨k + 1, ⟨⟨by omega, hf⟩, HF.less _ ⟨rfl, rfl, rfl, rfl, trivial⟩, HS.out⟩, (by omega)⟩
  · clear HF; have HF := HF1; clear HF1
    have dcc1 := of_decide_eq_false cc1
    refine wc_false HF rfl ?_
    refine wp_exit ?_
    refine ex_then_exit ?_
    refine ex_then_exit ?_
    refine ex_block_hit ?_
    refine ex_then ?_
    refine wp_seq ?_
    refine wp_region_lit ?_
    refine wl_y rfl HF rfl rfl (yl_assign rfl (HF.ev rfl)) ?_; clear HF; clear a; intro a HF
    refine wpList_nil ?_
    refine ex_then ?_
    refine wp_ret ?_
    refine bp_ret1 HF Try.results162 (HF.res rfl) ?_
    rw [idxB_end (k := k) (by omega)] at hf
    exact ⟨by rw [hf], HS.out.bel⟩

set_option maxHeartbeats 1000000 in
set_option maxRecDepth 100000 in
theorem containsFuncW_any (a0 : Option Addr) (c0 : Nat) (xs : List WaitD) (f : FuncId) (caps : Array Value) (p : Nat → Bool) (w0 : World) (hl : xs.length ≤ 1048576) (HE : ∀ (args : Array Value) (w : World), (callFunc f args).run Try.prog w = .ok (.enter f args) w) (hR : Rd WaitD.cells 2 w0 a0 xs.length xs) (hf : ∀ k, k < xs.length → ∀ w, Below w0.heap.size w0 w → Calls Try.prog f (#[] ++ #[.agg #[.int .i64 ((xs.getD k default).fAt), .string ((xs.getD k default).fText)]] ++ caps) w fun e w' => e = .returned (.bool (p k)) ∧ Below w.heap.size w w') : Calls Try.prog 130 #[.slice a0 xs.length c0, .func (.func f) #[] caps] w0 fun e w' => e = .returned (.bool (!allB (fun k => !p k) xs.length)) ∧ Below w0.heap.size w0 w' := by
  have HR := Bx.mk hR; have HF0 := Bx.mk hf; clear hR hf
  have HS := Bx.mk (St.start w0)
  refine wc_enter Try.func130 rfl Try.ntmps130 [(0, .slice a0 xs.length c0), (1, .func (.func f) #[] caps)] ⟨rfl, rfl, trivial⟩ rfl ?_; intro a HF
  refine wp_seq ?_
  refine wp_region_lit ?_
  refine wl_y rfl HF rfl rfl (yl_assign rfl (HF.ev rfl)) ?_; clear HF; clear a; intro a HF
  refine wpList_nil ?_
  refine ex_then ?_
  refine wp_seq ?_
  refine wp_region_lit ?_
  refine wl_y rfl HF rfl rfl (yl_move rfl (HF.ev rfl)) ?_; clear HF; clear a; intro a HF
  refine wl_y rfl HF rfl rfl (yl_move rfl (HF.ev rfl)) ?_; clear HF; clear a; intro a HF
  refine wl_callB rfl HF rfl (enter_of Try.func162 (by kernel_rfl) rfl) (args := #[.slice a0 xs.length c0, .func (.func f) #[] caps]) rfl (v := .int .i64 (idxB p xs.length 0)) (indexFuncW_any a0 c0 xs f caps p _ hl HE (HR.out.below HS.out.bel) (fun k hk w hb => HF0.out k hk w (HS.out.bel.trans (hb.mono HS.out.bel.size)))) rfl rfl HS.out ?_; clear HF HS; clear a; intro w1 a HS HF; replace HS := Bx.mk HS
  refine wl_y rfl HF rfl rfl (yl_geqI rfl (HF.ev rfl) (HF.ev rfl)) ?_; clear HF; clear a; intro a HF
  refine wl_y rfl HF rfl rfl (yl_assign rfl (HF.ev rfl)) ?_; clear HF; clear a; intro a HF
  refine wpList_nil ?_
  refine ex_then ?_
  refine wp_ret ?_
  refine bp_ret1 HF Try.results130 (HF.res rfl) ?_
  exact ⟨by rw [← idxB_any], HS.out.bel⟩

set_option maxHeartbeats 1000000 in
set_option maxRecDepth 100000 in
theorem indexFuncD_any (a0 : Option Addr) (c0 : Nat) (xs : List HD) (f : FuncId) (caps : Array Value) (p : Nat → Bool) (w0 : World) (hl : xs.length ≤ 1048576) (HE : ∀ (args : Array Value) (w : World), (callFunc f args).run Try.prog w = .ok (.enter f args) w) (hR : Rd HD.cells 3 w0 a0 xs.length xs) (hf : ∀ k, k < xs.length → ∀ w, Below w0.heap.size w0 w → Calls Try.prog f (#[] ++ #[.agg #[.slice ((xs.getD k default).a0) ((xs.getD k default).d.fCells.length) ((xs.getD k default).c0), .slice ((xs.getD k default).a1) ((xs.getD k default).d.fWaits.length) ((xs.getD k default).c1), .bool ((xs.getD k default).d.fGone)]] ++ caps) w fun e w' => e = .returned (.bool (p k)) ∧ Below w.heap.size w w') : Calls Try.prog 160 #[.slice a0 xs.length c0, .func (.func f) #[] caps] w0 fun e w' => e = .returned (.int .i64 (idxB p xs.length 0)) ∧ Below w0.heap.size w0 w' := by
  have HR := Bx.mk hR; have HF0 := Bx.mk hf; clear hR hf
  have HS := Bx.mk (St.start w0)
  refine wc_enter Try.func160 rfl Try.ntmps160 [(0, .slice a0 xs.length c0), (1, .func (.func f) #[] caps)] ⟨rfl, rfl, trivial⟩ rfl ?_; intro a HF
  refine wp_seq ?_
  refine wp_region_lit ?_
  refine wl_y rfl HF rfl rfl (yl_assign rfl (HF.ev rfl)) ?_; clear HF; clear a; intro a HF
  refine wpList_nil ?_
  refine ex_then ?_
  refine wp_seq ?_
  refine wp_seq ?_
  refine wp_region_lit ?_
  refine wl_y rfl HF rfl rfl (yl_move rfl (HF.ev rfl)) ?_; clear HF; clear a; intro a HF
  refine wl_y rfl HF rfl rfl (yl_lenL (e := 44) (size := 3) rfl (HF.ev rfl) (by kernel_rfl)) ?_; clear HF; clear a; intro a HF
  refine wl_y rfl HF rfl rfl (yl_move rfl (HF.ev rfl)) ?_; clear HF; clear a; intro a HF
  refine wpList_nil ?_
  refine ex_then ?_
  refine wp_block ?_
  refine wc_loop (ι := Nat) (fun k a w => (k ≤ xs.length ∧ idxB p xs.length 0 = idxB p xs.length k) ∧ Fr 19 a [(0, .slice a0 xs.length c0), (1, .func (.func f) #[] caps), (7, .int .i64 (xs.length : Int)), (8, .int .i64 (k : Int))] ∧ St w0 ([]) w) (fun k => xs.length - k) 0 ⟨⟨Nat.zero_le _, rfl⟩, HF.less _ ⟨rfl, rfl, rfl, rfl, trivial⟩, HS.out⟩ ?_
  clear HF HS; clear a
  rintro k a w1 ⟨⟨hk, hf⟩, HF, HS⟩
  replace HS := Bx.mk HS
  refine wp_seq ?_
  refine wp_region_lit ?_
  refine wl_y rfl HF rfl rfl (yl_lssI rfl (HF.ev rfl) (HF.ev rfl)) ?_; clear HF; clear a; intro a HF
  refine wpList_nil ?_
  refine ex_then ?_
  refine wp_seq ?_
  refine HF.cases 9 rfl (fun cc1 HF1 => ?_) (fun cc1 HF1 => ?_)
  · clear HF; have HF := HF1; clear HF1
    have dcc1 := of_decide_eq_true cc1
    refine wc_true HF rfl ?_
    refine wp_skip ?_
    refine ex_then ?_
    refine wp_seq ?_
    refine wp_block ?_
    refine wp_seq ?_
    refine wp_region_lit ?_
    refine wl_y rfl HF rfl rfl (yl_move rfl (HF.ev rfl)) ?_; clear HF; clear a; intro a HF
    refine wl_y rfl HF rfl rfl (yl_assign rfl (HF.ev rfl)) ?_; clear HF; clear a; intro a HF
    refine wpList_nil ?_
    refine ex_then ?_
    refine wp_seq ?_
    obtain ⟨g0, o0, r0⟩ := HR.out.opn; have R0 := Bx.mk r0; clear r0
    refine wp_region_lit ?_
    refine wl_y rfl HF rfl rfl (yl_move rfl (HF.ev rfl)) ?_; clear HF; clear a; intro a HF
    refine wl_y rfl HF rfl rfl (yl_move rfl (HF.ev rfl)) ?_; clear HF; clear a; intro a HF
    refine wl_y rfl HF rfl rfl (yl_move rfl (HF.ev rfl)) ?_; clear HF; clear a; intro a HF
    refine wl_y rfl HF rfl rfl (yl_indexAddrR (e := 44) (i := k) (size := 3) rfl (HF.ev rfl) (HF.ev rfl) (by kernel_rfl) rfl (by omega) (R0.out.ao k (by omega))) ?_; clear HF; clear a; intro a HF
    refine wl_y rfl HF rfl rfl (yl_loadR (cs := [.slice ((xs.getD k default).a0) ((xs.getD k default).d.fCells.length) ((xs.getD k default).c0), .slice ((xs.getD k default).a1) ((xs.getD k default).d.fWaits.length) ((xs.getD k default).c1), .bool ((xs.getD k default).d.fGone)]) rfl (HF.ev rfl) (R0.out.elem HS.out (get_getD (xs := xs) (j := k) (d := default) (by omega))) (by kernel_rfl)) ?_; clear HF; clear a; intro a HF
    refine wl_callvB rfl HF rfl (HF.ev rfl) HE (args := #[.agg #[.slice ((xs.getD k default).a0) ((xs.getD k default).d.fCells.length) ((xs.getD k default).c0), .slice ((xs.getD k default).a1) ((xs.getD k default).d.fWaits.length) ((xs.getD k default).c1), .bool ((xs.getD k default).d.fGone)]]) rfl (v := .bool (p k)) (HF0.out k (by omega) _ HS.out.bel) rfl rfl HS.out ?_; clear HF HS; clear a; intro w2 a HS HF; replace HS := Bx.mk HS
    refine wpList_nil ?_
    refine ex_then ?_
    refine HF.cases 16 rfl (fun cc2 HF1 => ?_) (fun cc2 HF1 => ?_)
    · clear HF; have HF := HF1; clear HF1
      refine wc_true HF rfl ?_
      refine wp_seq ?_
      refine wp_region_lit ?_
      refine wl_y rfl HF rfl rfl (yl_move rfl (HF.ev rfl)) ?_; clear HF; clear a; intro a HF
      refine wl_y rfl HF rfl rfl (yl_assign rfl (HF.ev rfl)) ?_; clear HF; clear a; intro a HF
      refine wpList_nil ?_
      refine ex_then ?_
      refine wp_ret ?_
      refine ex_block_ret ?_
      refine ex_then_ret ?_
      refine ex_then_ret ?_
      refine ex_block_ret ?_
      refine ex_then_ret ?_
      refine bp_ret1 HF Try.results160 (HF.res rfl) ?_
      rw [idxB_lt (k := k) (by omega), if_pos cc2] at hf
      exact ⟨by rw [hf], HS.out.bel⟩
    · clear HF; have HF := HF1; clear HF1
      refine wc_false HF rfl ?_
      refine wp_skip ?_
      refine ex_block ?_
      refine ex_then ?_
      refine wp_region_lit ?_
      refine wl_y rfl HF rfl rfl (yl_addI rfl (HF.ev rfl) (HF.ev rfl) (i64w (by omega))) ?_; clear HF; clear a; intro a HF
      refine wl_y rfl HF rfl rfl (yl_move rfl (HF.ev rfl)) ?_; clear HF; clear a; intro a HF
      refine wpList_nil ?_
      refine ex_then ?_
      rw [idxB_lt (k := k) (by omega), if_neg (by rw [cc2]; simp)] at hf
      exact ⟨k + 1, ⟨⟨by omega, hf⟩, HF.less _ ⟨rfl, rfl, rfl, rfl, trivial⟩, HS.out⟩, (by omega)⟩
  · clear HF; have HF := HF1; clear HF1
    have dcc1 := of_decide_eq_false cc1
    refine wc_false HF rfl ?_
    refine wp_exit ?_
    refine ex_then_exit ?_
    refine ex_then_exit ?_
    refine ex_block_hit ?_
    refine ex_then ?_
    refine wp_seq ?_
    refine wp_region_lit ?_
    refine wl_y rfl HF rfl rfl (yl_assign rfl (HF.ev rfl)) ?_; clear HF; clear a; intro a HF
    refine wpList_nil ?_
    refine ex_then ?_
    refine wp_ret ?_
    refine bp_ret1 HF Try.results160 (HF.res rfl) ?_
    rw [idxB_end (k := k) (by omega)] at hf
    exact ⟨by rw [hf], HS.out.bel⟩

set_option maxHeartbeats 1000000 in
set_option maxRecDepth 100000 in
theorem containsFuncD_any (a0 : Option Addr) (c0 : Nat) (xs : List HD) (f : FuncId) (caps : Array Value) (p : Nat → Bool) (w0 : World) (hl : xs.length ≤ 1048576) (HE : ∀ (args : Array Value) (w : World), (callFunc f args).run Try.prog w = .ok (.enter f args) w) (hR : Rd HD.cells 3 w0 a0 xs.length xs) (hf : ∀ k, k < xs.length → ∀ w, Below w0.heap.size w0 w → Calls Try.prog f (#[] ++ #[.agg #[.slice ((xs.getD k default).a0) ((xs.getD k default).d.fCells.length) ((xs.getD k default).c0), .slice ((xs.getD k default).a1) ((xs.getD k default).d.fWaits.length) ((xs.getD k default).c1), .bool ((xs.getD k default).d.fGone)]] ++ caps) w fun e w' => e = .returned (.bool (p k)) ∧ Below w.heap.size w w') : Calls Try.prog 118 #[.slice a0 xs.length c0, .func (.func f) #[] caps] w0 fun e w' => e = .returned (.bool (!allB (fun k => !p k) xs.length)) ∧ Below w0.heap.size w0 w' := by
  have HR := Bx.mk hR; have HF0 := Bx.mk hf; clear hR hf
  have HS := Bx.mk (St.start w0)
  refine wc_enter Try.func118 rfl Try.ntmps118 [(0, .slice a0 xs.length c0), (1, .func (.func f) #[] caps)] ⟨rfl, rfl, trivial⟩ rfl ?_; intro a HF
  refine wp_seq ?_
  refine wp_region_lit ?_
  refine wl_y rfl HF rfl rfl (yl_assign rfl (HF.ev rfl)) ?_; clear HF; clear a; intro a HF
  refine wpList_nil ?_
  refine ex_then ?_
  refine wp_seq ?_
  refine wp_region_lit ?_
  refine wl_y rfl HF rfl rfl (yl_move rfl (HF.ev rfl)) ?_; clear HF; clear a; intro a HF
  refine wl_y rfl HF rfl rfl (yl_move rfl (HF.ev rfl)) ?_; clear HF; clear a; intro a HF
  refine wl_callB rfl HF rfl (enter_of Try.func160 (by kernel_rfl) rfl) (args := #[.slice a0 xs.length c0, .func (.func f) #[] caps]) rfl (v := .int .i64 (idxB p xs.length 0)) (indexFuncD_any a0 c0 xs f caps p _ hl HE (HR.out.below HS.out.bel) (fun k hk w hb => HF0.out k hk w (HS.out.bel.trans (hb.mono HS.out.bel.size)))) rfl rfl HS.out ?_; clear HF HS; clear a; intro w1 a HS HF; replace HS := Bx.mk HS
  refine wl_y rfl HF rfl rfl (yl_geqI rfl (HF.ev rfl) (HF.ev rfl)) ?_; clear HF; clear a; intro a HF
  refine wl_y rfl HF rfl rfl (yl_assign rfl (HF.ev rfl)) ?_; clear HF; clear a; intro a HF
  refine wpList_nil ?_
  refine ex_then ?_
  refine wp_ret ?_
  refine bp_ret1 HF Try.results118 (HF.res rfl) ?_
  exact ⟨by rw [← idxB_any], HS.out.bel⟩

end Go.Proofs.Ytfijfjjleelphaa

/- Disks that are valid, by the program; sets of disks. -/
namespace Go.Proofs.Ytfijfjjleelphaa
open Go.RowKit

set_option maxHeartbeats 1000000 in
set_option maxRecDepth 100000 in
theorem isCell_any (n : Int) (w0 : World) : Calls Try.prog 69 #[.int .i64 n] w0 fun e w' => e = .returned (.bool (inB n 0 63)) ∧ Below w0.heap.size w0 w' := by
  have HS := Bx.mk (St.start w0)
  refine wc_enter Try.func69 rfl Try.ntmps69 [(0, .int .i64 n)] ⟨rfl, trivial⟩ rfl ?_; intro a HF
  refine wp_seq ?_
  refine wp_region_lit ?_
  refine wl_y rfl HF rfl rfl (yl_assign rfl (HF.ev rfl)) ?_; clear HF; clear a; intro a HF
  refine wpList_nil ?_
  refine ex_then ?_
  refine wp_seq ?_
  refine wp_region_lit ?_
  refine wl_y rfl HF rfl rfl (yl_move rfl (HF.ev rfl)) ?_; clear HF; clear a; intro a HF
  refine wl_callB rfl HF rfl (enter_of Try.func65 (by kernel_rfl) rfl) (args := #[.int .i64 n, .int .i64 0, .int .i64 63]) rfl (v := .bool (inB n 0 63)) (((within_any n 0 63 _).mono fun _ _ h => ⟨h.1, h.2 ▸ Below.refl _ _⟩)) rfl rfl HS.out ?_; clear HF HS; clear a; intro w1 a HS HF; replace HS := Bx.mk HS
  refine wl_y rfl HF rfl rfl (yl_assign rfl (HF.ev rfl)) ?_; clear HF; clear a; intro a HF
  refine wpList_nil ?_
  refine ex_then ?_
  refine wp_ret ?_
  refine bp_ret1 HF Try.results69 (HF.res rfl) ?_
  exact ⟨rfl, HS.out.bel⟩

def badWaitF (n : Int) (t : ByteArray) : Bool := (bif !(inB n 0 63) then true else (decide ((200 : Int) < (t.size : Int))))

set_option maxHeartbeats 1000000 in
set_option maxRecDepth 100000 in
theorem badWaitF_any (n : Int) (t : ByteArray) (w0 : World) (ht : t.size ≤ 9223372036854775807) : Calls Try.prog 131 #[.agg #[.int .i64 n, .string t]] w0 fun e w' => e = .returned (.bool (badWaitF n t)) ∧ Below w0.heap.size w0 w' := by
  have HS := Bx.mk (St.start w0)
  refine wc_enter Try.func131 rfl Try.ntmps131 [(0, .agg #[.int .i64 n, .string t])] ⟨rfl, trivial⟩ rfl ?_; intro a HF
  refine wp_seq ?_
  refine wp_region_lit ?_
  refine wl_box rfl HF rfl (HF.ev rfl) (Z := [.int .i64 n, .string t]) rfl rfl rfl rfl HS.out ?_; clear HF HS; clear a; intro a w1 b1 HF HS; replace HS := Bx.mk HS
  refine wl_y rfl HF rfl rfl (yl_assign rfl (HF.ev rfl)) ?_; clear HF; clear a; intro a HF
  refine wpList_nil ?_
  refine ex_then ?_
  refine wp_seq ?_
  refine wp_region_lit ?_
  refine wl_y rfl HF rfl rfl (yl_fieldAddr (j := 0) rfl (HF.ev rfl) (by kernel_rfl)) ?_; clear HF; clear a; intro a HF
  refine wl_y rfl HF rfl rfl (yl_load (v := .int .i64 n) rfl (HF.ev rfl) (((HS.out.box 0 rfl).cell 0).trans rfl) (by kernel_rfl)) ?_; clear HF; clear a; intro a HF
  refine wl_callB rfl HF rfl (enter_of Try.func69 (by kernel_rfl) rfl) (args := #[.int .i64 n]) rfl (v := .bool (inB n 0 63)) (isCell_any n _) rfl rfl HS.out ?_; clear HF HS; clear a; intro w2 a HS HF; replace HS := Bx.mk HS
  refine wl_y rfl HF rfl rfl (yl_not rfl (HF.ev rfl)) ?_; clear HF; clear a; intro a HF
  refine wl_y rfl HF rfl rfl (yl_move rfl (HF.ev rfl)) ?_; clear HF; clear a; intro a HF
  refine HF.cases 7 rfl (fun cc1 HF1 => ?_) (fun cc1 HF1 => ?_)
  · clear HF; have HF := HF1; clear HF1
    refine wl_skip HF rfl rfl rfl rfl rfl rfl ?_; clear HF; clear a; intro a HF
    refine wl_skip HF rfl rfl rfl rfl rfl rfl ?_; clear HF; clear a; intro a HF
    refine wl_skip HF rfl rfl rfl rfl rfl rfl ?_; clear HF; clear a; intro a HF
    refine wl_skip HF rfl rfl rfl rfl rfl rfl ?_; clear HF; clear a; intro a HF
    refine wl_y rfl HF rfl rfl (yl_pick_t rfl (HF.ev rfl) (HF.ev rfl)) ?_; clear HF; clear a; intro a HF
    refine wl_y rfl HF rfl rfl (yl_assign rfl (HF.ev rfl)) ?_; clear HF; clear a; intro a HF
    refine wpList_nil ?_
    refine ex_then ?_
    refine wp_ret ?_
    refine bp_ret1 HF Try.results131 (HF.res rfl) ?_
    exact ⟨by simp only [badWaitF, cc1, cond_true, cond_false], HS.out.bel⟩
  · clear HF; have HF := HF1; clear HF1
    refine wl_yg HF rfl rfl rfl rfl rfl (yl_fieldAddr (j := 1) rfl (HF.ev rfl) (by kernel_rfl)) ?_; clear HF; clear a; intro a HF
    refine wl_yg HF rfl rfl rfl rfl rfl (yl_load (v := .string t) rfl (HF.ev rfl) (((HS.out.box 0 rfl).cell 1).trans rfl) (by kernel_rfl)) ?_; clear HF; clear a; intro a HF
    refine wl_yg HF rfl rfl rfl rfl rfl (yl_lenS rfl (HF.ev rfl) (by kernel_rfl)) ?_; clear HF; clear a; intro a HF
    refine wl_yg HF rfl rfl rfl rfl rfl (yl_gtrI rfl (HF.ev rfl) (HF.ev rfl)) ?_; clear HF; clear a; intro a HF
    refine wl_y rfl HF rfl rfl (yl_pick_f rfl (HF.ev rfl) (HF.ev rfl)) ?_; clear HF; clear a; intro a HF
    refine wl_y rfl HF rfl rfl (yl_assign rfl (HF.ev rfl)) ?_; clear HF; clear a; intro a HF
    refine wpList_nil ?_
    refine ex_then ?_
    refine wp_ret ?_
    refine bp_ret1 HF Try.results131 (HF.res rfl) ?_
    exact ⟨by simp only [badWaitF, cc1, cond_true, cond_false], HS.out.bel⟩

theorem badWaitF_eq (d : DiskD) (k : Nat) : badWaitF (d.fWaits.getD k default).fAt (d.fWaits.getD k default).fText = !waitB d k := by
  have e : decide ((200 : Int) < ((d.fWaits.getD k default).fText.size : Int)) = !decide ((d.fWaits.getD k default).fText.size ≤ 200) := by
    by_cases h : (d.fWaits.getD k default).fText.size ≤ 200
    · rw [decide_eq_false (by omega), decide_eq_true h]; rfl
    · rw [decide_eq_true (by omega), decide_eq_false h]; rfl
  unfold badWaitF waitB
  rw [e]
  cases inB (d.fWaits.getD k default).fAt 0 63 <;> cases decide ((d.fWaits.getD k default).fText.size ≤ 200) <;> rfl

set_option maxHeartbeats 1000000 in
set_option maxRecDepth 100000 in
theorem implDiskOk_any (a0 : Option Addr) (c0 : Nat) (a1 : Option Addr) (c1 : Nat) (d : DiskD) (w0 : World) (hc : d.fCells.length ≤ 1048576) (hw : d.fWaits.length ≤ 1048576) (hcz : ∀ k, (d.fCells.getD k ByteArray.empty).size ≤ 9223372036854775807) (hx : ∀ k, (d.fWaits.getD k default).fText.size ≤ 9223372036854775807) (hC : Rd encS 1 w0 a0 d.fCells.length d.fCells) (hW : Rd WaitD.cells 2 w0 a1 d.fWaits.length d.fWaits) : Calls Try.prog 68 #[.agg #[.slice a0 d.fCells.length c0, .slice a1 d.fWaits.length c1, .bool d.fGone]] w0 fun e w' => e = .returned (.bool d.ok) ∧ Below w0.heap.size w0 w' := by
  have HC := Bx.mk hC; clear hC
  have HW := Bx.mk hW; clear hW
  have HS := Bx.mk (St.start w0)
  refine wc_enter Try.func68 rfl Try.ntmps68 [(0, .agg #[.slice a0 d.fCells.length c0, .slice a1 d.fWaits.length c1, .bool d.fGone])] ⟨rfl, trivial⟩ rfl ?_; intro a HF
  refine wp_seq ?_
  refine wp_region_lit ?_
  refine wl_box rfl HF rfl (HF.ev rfl) (Z := [.slice a0 d.fCells.length c0, .slice a1 d.fWaits.length c1, .bool d.fGone]) rfl rfl rfl rfl HS.out ?_; clear HF HS; clear a; intro a w1 b1 HF HS; replace HS := Bx.mk HS
  refine wl_y rfl HF rfl rfl (yl_assign rfl (HF.ev rfl)) ?_; clear HF; clear a; intro a HF
  refine wpList_nil ?_
  refine ex_then ?_
  refine wp_seq ?_
  refine wp_seq ?_
  refine wp_region_lit ?_
  refine wl_y rfl HF rfl rfl (yl_fieldAddr (j := 0) rfl (HF.ev rfl) (by kernel_rfl)) ?_; clear HF; clear a; intro a HF
  refine wl_y rfl HF rfl rfl (yl_load (v := .slice a0 d.fCells.length c0) rfl (HF.ev rfl) (((HS.out.box 0 rfl).cell 0).trans rfl) (by kernel_rfl)) ?_; clear HF; clear a; intro a HF
  refine wl_y rfl HF rfl rfl (yl_lenL (e := 9) (size := 1) rfl (HF.ev rfl) (by kernel_rfl)) ?_; clear HF; clear a; intro a HF
  refine wl_y rfl HF rfl rfl (yl_neqI rfl (HF.ev rfl) (HF.ev rfl)) ?_; clear HF; clear a; intro a HF
  refine wl_y rfl HF rfl rfl (yl_move rfl (HF.ev rfl)) ?_; clear HF; clear a; intro a HF
  refine HF.cases 9 rfl (fun cc1 HF1 => ?_) (fun cc1 HF1 => ?_)
  · clear HF; have HF := HF1; clear HF1
    have q1 : decide (d.fCells.length = 64) = false := decide_eq_false (by have := bne_iff_ne.1 cc1; omega)
    refine wl_skip HF rfl rfl rfl rfl rfl rfl ?_; clear HF; clear a; intro a HF
    refine wl_skip HF rfl rfl rfl rfl rfl rfl ?_; clear HF; clear a; intro a HF
    refine wl_skip HF rfl rfl rfl rfl rfl rfl ?_; clear HF; clear a; intro a HF
    refine wl_skip HF rfl rfl rfl rfl rfl rfl ?_; clear HF; clear a; intro a HF
    refine wl_y rfl HF rfl rfl (yl_pick_t rfl (HF.ev rfl) (HF.ev rfl)) ?_; clear HF; clear a; intro a HF
    refine wpList_nil ?_
    refine ex_then ?_
    refine wc_true HF rfl ?_
    refine wp_seq ?_
    refine wp_region_lit ?_
    refine wl_y rfl HF rfl rfl (yl_assign rfl (HF.ev rfl)) ?_; clear HF; clear a; intro a HF
    refine wpList_nil ?_
    refine ex_then ?_
    refine wp_ret ?_
    refine ex_then_ret ?_
    refine bp_ret1 HF Try.results68 (HF.res rfl) ?_
    have hok : d.ok = false := by unfold DiskD.ok; rw [q1]; simp
    exact ⟨by rw [hok], HS.out.bel⟩
  · clear HF; have HF := HF1; clear HF1
    have q1 : decide (d.fCells.length = 64) = true := decide_eq_true (by have := bne_eq_false_iff_eq.1 cc1; omega)
    refine wl_yg HF rfl rfl rfl rfl rfl (yl_fieldAddr (j := 1) rfl (HF.ev rfl) (by kernel_rfl)) ?_; clear HF; clear a; intro a HF
    refine wl_yg HF rfl rfl rfl rfl rfl (yl_load (v := .slice a1 d.fWaits.length c1) rfl (HF.ev rfl) (((HS.out.box 0 rfl).cell 1).trans rfl) (by kernel_rfl)) ?_; clear HF; clear a; intro a HF
    refine wl_yg HF rfl rfl rfl rfl rfl (yl_lenL (e := 144) (size := 2) rfl (HF.ev rfl) (by kernel_rfl)) ?_; clear HF; clear a; intro a HF
    refine wl_yg HF rfl rfl rfl rfl rfl (yl_gtrI rfl (HF.ev rfl) (HF.ev rfl)) ?_; clear HF; clear a; intro a HF
    refine wl_y rfl HF rfl rfl (yl_pick_f rfl (HF.ev rfl) (HF.ev rfl)) ?_; clear HF; clear a; intro a HF
    refine wpList_nil ?_
    refine ex_then ?_
    refine HF.cases 14 rfl (fun cc2 HF1 => ?_) (fun cc2 HF1 => ?_)
    · clear HF; have HF := HF1; clear HF1
      have q2 : decide (d.fWaits.length ≤ 120) = false := decide_eq_false (by have := of_decide_eq_true cc2; omega)
      refine wc_true HF rfl ?_
      refine wp_seq ?_
      refine wp_region_lit ?_
      refine wl_y rfl HF rfl rfl (yl_assign rfl (HF.ev rfl)) ?_; clear HF; clear a; intro a HF
      refine wpList_nil ?_
      refine ex_then ?_
      refine wp_ret ?_
      refine ex_then_ret ?_
      refine bp_ret1 HF Try.results68 (HF.res rfl) ?_
      have hok : d.ok = false := by unfold DiskD.ok; rw [q1, q2]; simp
      exact ⟨by rw [hok], HS.out.bel⟩
    · clear HF; have HF := HF1; clear HF1
      have q2 : decide (d.fWaits.length ≤ 120) = true := decide_eq_true (by have := of_decide_eq_false cc2; omega)
      refine wc_false HF rfl ?_
      refine wp_skip ?_
      refine ex_then ?_
      refine wp_seq ?_
      refine wp_seq ?_
      refine wp_region_lit ?_
      refine wl_y rfl HF rfl rfl (yl_fieldAddr (j := 0) rfl (HF.ev rfl) (by kernel_rfl)) ?_; clear HF; clear a; intro a HF
      refine wl_y rfl HF rfl rfl (yl_load (v := .slice a0 d.fCells.length c0) rfl (HF.ev rfl) (((HS.out.box 0 rfl).cell 0).trans rfl) (by kernel_rfl)) ?_; clear HF; clear a; intro a HF
      refine wl_y rfl HF rfl rfl (yl_lenL (e := 9) (size := 1) rfl (HF.ev rfl) (by kernel_rfl)) ?_; clear HF; clear a; intro a HF
      refine wl_y rfl HF rfl rfl (yl_move rfl (HF.ev rfl)) ?_; clear HF; clear a; intro a HF
      refine wpList_nil ?_
      refine ex_then ?_
      refine wp_block ?_
      refine wc_loop (ι := Nat) (fun k a w => (k ≤ d.fCells.length ∧ allB (cellB d) k = true) ∧ Fr 49 a [(1, .pointer (some ⟨b1, 0, none⟩)), (16, .slice a0 d.fCells.length c0), (17, .int .i64 (d.fCells.length : Int)), (18, .int .i64 (k : Int))] ∧ St w0 ([boxA b1 3 44 (.agg #[.slice a0 d.fCells.length c0, .slice a1 d.fWaits.length c1, .bool d.fGone])]) w) (fun k => d.fCells.length - k) 0 ⟨⟨Nat.zero_le _, rfl⟩, HF.less _ ⟨rfl, rfl, rfl, rfl, trivial⟩, HS.out⟩ ?_
      clear HF HS; clear a
      rintro k a w2 ⟨⟨hk, hf⟩, HF, HS⟩
      replace HS := Bx.mk HS
      refine wp_seq ?_
      refine wp_region_lit ?_
      refine wl_y rfl HF rfl rfl (yl_lssI rfl (HF.ev rfl) (HF.ev rfl)) ?_; clear HF; clear a; intro a HF
      refine wpList_nil ?_
      refine ex_then ?_
      refine wp_seq ?_
      refine HF.cases 19 rfl (fun cc3 HF1 => ?_) (fun cc3 HF1 => ?_)
      · clear HF; have HF := HF1; clear HF1
        have cc3 := of_decide_eq_true cc3
        refine wc_true HF rfl ?_
        refine wp_skip ?_
        refine ex_then ?_
        refine wp_seq ?_
        refine wp_block ?_
        refine wp_seq ?_
        obtain ⟨g0, o0, r0⟩ := HC.out.opn; have RC := Bx.mk r0; clear r0
        refine wp_region_lit ?_
        refine wl_y rfl HF rfl rfl (yl_indexAddrR (e := 9) (i := k) (size := 1) rfl (HF.ev rfl) (HF.ev rfl) (by kernel_rfl) rfl (by omega) (RC.out.ao k (by omega))) ?_; clear HF; clear a; intro a HF
        refine wl_y rfl HF rfl rfl (yl_load (v := .string (d.fCells.getD k ByteArray.empty)) rfl (HF.ev rfl) (RC.out.elem1 HS.out (get_getD (xs := d.fCells) (j := k) (d := ByteArray.empty) (by omega)) rfl) (by kernel_rfl)) ?_; clear HF; clear a; intro a HF
        refine wl_y rfl HF rfl rfl (yl_assign rfl (HF.ev rfl)) ?_; clear HF; clear a; intro a HF
        refine wpList_nil ?_
        refine ex_then ?_
        refine wp_seq ?_
        refine wp_region_lit ?_
        refine wl_y rfl HF rfl rfl (yl_move rfl (HF.ev rfl)) ?_; clear HF; clear a; intro a HF
        refine wl_y rfl HF rfl rfl (yl_lenS rfl (HF.ev rfl) (by kernel_rfl)) ?_; clear HF; clear a; intro a HF
        refine wl_y rfl HF rfl rfl (yl_gtrI rfl (HF.ev rfl) (HF.ev rfl)) ?_; clear HF; clear a; intro a HF
        refine wl_y rfl HF rfl rfl (yl_move rfl (HF.ev rfl)) ?_; clear HF; clear a; intro a HF
        refine HF.cases 25 rfl (fun cc4 HF1 => ?_) (fun cc4 HF1 => ?_)
        · clear HF; have HF := HF1; clear HF1
          have p1 : decide ((d.fCells.getD k ByteArray.empty).size ≤ 200) = false := decide_eq_false (by have := of_decide_eq_true cc4; omega)
          refine wl_skip HF rfl rfl rfl rfl rfl rfl ?_; clear HF; clear a; intro a HF
          refine wl_skip HF rfl rfl rfl rfl rfl rfl ?_; clear HF; clear a; intro a HF
          refine wl_skip HF rfl rfl rfl rfl rfl rfl ?_; clear HF; clear a; intro a HF
          refine wl_skipU HF rfl rfl rfl rfl rfl ?_; clear HF; clear a; intro a HF
          refine wl_skipU HF rfl rfl rfl rfl rfl ?_; clear HF; clear a; intro a HF
          refine wl_skip HF rfl rfl rfl rfl rfl rfl ?_; clear HF; clear a; intro a HF
          refine wl_y rfl HF rfl rfl (yl_pick_t rfl (HF.ev rfl) (HF.ev rfl)) ?_; clear HF; clear a; intro a HF
          refine wpList_nil ?_
          refine ex_then ?_
          refine wc_true HF rfl ?_
          refine wp_seq ?_
          refine wp_region_lit ?_
          refine wl_y rfl HF rfl rfl (yl_assign rfl (HF.ev rfl)) ?_; clear HF; clear a; intro a HF
          refine wpList_nil ?_
          refine ex_then ?_
          refine wp_ret ?_
          refine ex_block_ret ?_
          refine ex_then_ret ?_
          refine ex_then_ret ?_
          refine ex_block_ret ?_
          refine ex_then_ret ?_
          refine bp_ret1 HF Try.results68 (HF.res rfl) ?_
          have hpf : cellB d k = false := by unfold cellB; simp only [p1]; rfl
          have hall := allB_false hpf (show k < d.fCells.length by omega)
          have hok : d.ok = false := by unfold DiskD.ok; rw [q1, q2, hall]; simp
          exact ⟨by rw [hok], HS.out.bel⟩
        · clear HF; have HF := HF1; clear HF1
          have p1 : decide ((d.fCells.getD k ByteArray.empty).size ≤ 200) = true := decide_eq_true (by have := of_decide_eq_false cc4; omega)
          refine wl_yg HF rfl rfl rfl rfl rfl (yl_fieldAddr (j := 2) rfl (HF.ev rfl) (by kernel_rfl)) ?_; clear HF; clear a; intro a HF
          refine wl_yg HF rfl rfl rfl rfl rfl (yl_load (v := .bool d.fGone) rfl (HF.ev rfl) (((HS.out.box 0 rfl).cell 2).trans rfl) (by kernel_rfl)) ?_; clear HF; clear a; intro a HF
          refine wl_yg HF rfl rfl rfl rfl rfl (yl_move rfl (HF.ev rfl)) ?_; clear HF; clear a; intro a HF
          refine HF.cases 28 rfl (fun cc5 HF1 => ?_) (fun cc5 HF1 => ?_)
          · clear HF; have HF := HF1; clear HF1
            have q3 : d.fGone = true := cc5
            refine wl_yg HF rfl rfl rfl rfl rfl (yl_move rfl (HF.ev rfl)) ?_; clear HF; clear a; intro a HF
            refine wl_yg HF rfl rfl rfl rfl rfl (yl_neqS rfl (HF.ev rfl) (HF.ev rfl)) ?_; clear HF; clear a; intro a HF
            refine wl_yg HF rfl rfl rfl rfl rfl (yl_pick_t rfl (HF.ev rfl) (HF.ev rfl)) ?_; clear HF; clear a; intro a HF
            refine wl_y rfl HF rfl rfl (yl_pick_f rfl (HF.ev rfl) (HF.ev rfl)) ?_; clear HF; clear a; intro a HF
            refine wpList_nil ?_
            refine ex_then ?_
            refine HF.cases 32 rfl (fun cc6 HF1 => ?_) (fun cc6 HF1 => ?_)
            · clear HF; have HF := HF1; clear HF1
              have p3 : ((d.fCells.getD k ByteArray.empty).toList == (⟨#[]⟩ : ByteArray).toList) = false := by simpa using cc6
              refine wc_true HF rfl ?_
              refine wp_seq ?_
              refine wp_region_lit ?_
              refine wl_y rfl HF rfl rfl (yl_assign rfl (HF.ev rfl)) ?_; clear HF; clear a; intro a HF
              refine wpList_nil ?_
              refine ex_then ?_
              refine wp_ret ?_
              refine ex_block_ret ?_
              refine ex_then_ret ?_
              refine ex_then_ret ?_
              refine ex_block_ret ?_
              refine ex_then_ret ?_
              refine bp_ret1 HF Try.results68 (HF.res rfl) ?_
              have hpf : cellB d k = false := by unfold cellB; simp only [p1, p3, q3]; rfl
              have hall := allB_false hpf (show k < d.fCells.length by omega)
              have hok : d.ok = false := by unfold DiskD.ok; rw [q1, q2, hall]; simp
              exact ⟨by rw [hok], HS.out.bel⟩
            · clear HF; have HF := HF1; clear HF1
              have p3 : ((d.fCells.getD k ByteArray.empty).toList == (⟨#[]⟩ : ByteArray).toList) = true := by simpa using cc6
              refine wc_false HF rfl ?_
              refine wp_skip ?_
              refine ex_block ?_
              refine ex_then ?_
              refine wp_region_lit ?_
              refine wl_y rfl HF rfl rfl (yl_addI rfl (HF.ev rfl) (HF.ev rfl) (i64w (by omega))) ?_; clear HF; clear a; intro a HF
              refine wl_y rfl HF rfl rfl (yl_move rfl (HF.ev rfl)) ?_; clear HF; clear a; intro a HF
              refine wpList_nil ?_
              refine ex_then ?_
              have hp : cellB d k = true := by unfold cellB; simp only [p1, p3, q3]; rfl
              exact ⟨k + 1, ⟨⟨by omega, by unfold allB; rw [hf, hp]; rfl⟩, HF.less _ ⟨rfl, rfl, rfl, rfl, trivial⟩, HS.out⟩, (by omega)⟩
          · clear HF; have HF := HF1; clear HF1
            have q3 : d.fGone = false := cc5
            refine wl_skip HF rfl rfl rfl rfl rfl rfl ?_; clear HF; clear a; intro a HF
            refine wl_skip HF rfl rfl rfl rfl rfl rfl ?_; clear HF; clear a; intro a HF
            refine wl_yg HF rfl rfl rfl rfl rfl (yl_pick_f rfl (HF.ev rfl) (HF.ev rfl)) ?_; clear HF; clear a; intro a HF
            refine wl_y rfl HF rfl rfl (yl_pick_f rfl (HF.ev rfl) (HF.ev rfl)) ?_; clear HF; clear a; intro a HF
            refine wpList_nil ?_
            refine ex_then ?_
            refine wc_false HF rfl ?_
            refine wp_skip ?_
            refine ex_block ?_
            refine ex_then ?_
            refine wp_region_lit ?_
            refine wl_y rfl HF rfl rfl (yl_addI rfl (HF.ev rfl) (HF.ev rfl) (i64w (by omega))) ?_; clear HF; clear a; intro a HF
            refine wl_y rfl HF rfl rfl (yl_move rfl (HF.ev rfl)) ?_; clear HF; clear a; intro a HF
            refine wpList_nil ?_
            refine ex_then ?_
            have hp : cellB d k = true := by unfold cellB; simp only [p1, q3]; rfl
            exact ⟨k + 1, ⟨⟨by omega, by unfold allB; rw [hf, hp]; rfl⟩, HF.less _ ⟨rfl, rfl, rfl, rfl, trivial⟩, HS.out⟩, (by omega)⟩
      · clear HF; have HF := HF1; clear HF1
        have cc3 := of_decide_eq_false cc3
        refine wc_false HF rfl ?_
        refine wp_exit ?_
        refine ex_then_exit ?_
        refine ex_then_exit ?_
        refine ex_block_hit ?_
        refine ex_then ?_
        refine wp_seq ?_
        have hkl : k = d.fCells.length := by omega
        rw [hkl] at hf; have hcells := hf; clear hf hkl
        refine wp_region_lit ?_
        refine wl_y rfl HF rfl rfl (yl_fieldAddr (j := 2) rfl (HF.ev rfl) (by kernel_rfl)) ?_; clear HF; clear a; intro a HF
        refine wl_y rfl HF rfl rfl (yl_load (v := .bool d.fGone) rfl (HF.ev rfl) (((HS.out.box 0 rfl).cell 2).trans rfl) (by kernel_rfl)) ?_; clear HF; clear a; intro a HF
        refine wl_y rfl HF rfl rfl (yl_move rfl (HF.ev rfl)) ?_; clear HF; clear a; intro a HF
        refine HF.cases 36 rfl (fun cc7 HF1 => ?_) (fun cc7 HF1 => ?_)
        · clear HF; have HF := HF1; clear HF1
          have q3 : d.fGone = true := cc7
          refine wl_yg HF rfl rfl rfl rfl rfl (yl_fieldAddr (j := 1) rfl (HF.ev rfl) (by kernel_rfl)) ?_; clear HF; clear a; intro a HF
          refine wl_yg HF rfl rfl rfl rfl rfl (yl_load (v := .slice a1 d.fWaits.length c1) rfl (HF.ev rfl) (((HS.out.box 0 rfl).cell 1).trans rfl) (by kernel_rfl)) ?_; clear HF; clear a; intro a HF
          refine wl_yg HF rfl rfl rfl rfl rfl (yl_lenL (e := 144) (size := 2) rfl (HF.ev rfl) (by kernel_rfl)) ?_; clear HF; clear a; intro a HF
          refine wl_yg HF rfl rfl rfl rfl rfl (yl_gtrI rfl (HF.ev rfl) (HF.ev rfl)) ?_; clear HF; clear a; intro a HF
          refine wl_y rfl HF rfl rfl (yl_pick_t rfl (HF.ev rfl) (HF.ev rfl)) ?_; clear HF; clear a; intro a HF
          refine wl_y rfl HF rfl rfl (yl_not rfl (HF.ev rfl)) ?_; clear HF; clear a; intro a HF
          refine wl_y rfl HF rfl rfl (yl_move rfl (HF.ev rfl)) ?_; clear HF; clear a; intro a HF
          refine HF.cases 43 rfl (fun cc8 HF1 => ?_) (fun cc8 HF1 => ?_)
          · clear HF; have HF := HF1; clear HF1
            have q4 : decide (0 < d.fWaits.length) = false := decide_eq_false (by have hx : decide ((0 : Int) < (d.fWaits.length : Int)) = false := (by simpa using cc8); have := of_decide_eq_false hx; omega)
            refine wl_yg HF rfl rfl rfl rfl rfl (yl_fieldAddr (j := 1) rfl (HF.ev rfl) (by kernel_rfl)) ?_; clear HF; clear a; intro a HF
            refine wl_yg HF rfl rfl rfl rfl rfl (yl_load (v := .slice a1 d.fWaits.length c1) rfl (HF.ev rfl) (((HS.out.box 0 rfl).cell 1).trans rfl) (by kernel_rfl)) ?_; clear HF; clear a; intro a HF
            refine wl_callBg HF rfl rfl rfl rfl (enter_of Try.func130 (by kernel_rfl) rfl) (args := #[.slice a1 d.fWaits.length c1, .func (.func 131) #[] #[]]) rfl (v := .bool (!allB (fun k => !!waitB d k) d.fWaits.length)) (containsFuncW_any a1 c1 d.fWaits 131 #[] (fun k => !waitB d k) _ (by omega) (enter_of Try.func131 (by kernel_rfl) rfl) (HW.out.below HS.out.bel) (fun k hk w hb => by have := badWaitF_any (d.fWaits.getD k default).fAt (d.fWaits.getD k default).fText w (hx k); rw [badWaitF_eq] at this; exact this)) rfl rfl HS.out ?_; clear HF HS; clear a; intro w3 a HS HF; replace HS := Bx.mk HS
            refine wl_yg HF rfl rfl rfl rfl rfl (yl_not rfl (HF.ev rfl)) ?_; clear HF; clear a; intro a HF
            refine wl_y rfl HF rfl rfl (yl_pick_t rfl (HF.ev rfl) (HF.ev rfl)) ?_; clear HF; clear a; intro a HF
            refine wl_y rfl HF rfl rfl (yl_assign rfl (HF.ev rfl)) ?_; clear HF; clear a; intro a HF
            refine wpList_nil ?_
            refine ex_then ?_
            refine wp_ret ?_
            refine bp_ret1 HF Try.results68 (HF.res rfl) ?_
            have hpp : (fun k => !!waitB d k) = waitB d := by funext k; simp
            have hok : d.ok = !(!allB (fun k => !!waitB d k) d.fWaits.length) := by unfold DiskD.ok; rw [q1, q2, q3, q4, hcells]; simp [hpp]
            exact ⟨by rw [hok], HS.out.bel⟩
          · clear HF; have HF := HF1; clear HF1
            have q4 : decide (0 < d.fWaits.length) = true := decide_eq_true (by have hx : decide ((0 : Int) < (d.fWaits.length : Int)) = true := (by simpa using cc8); have := of_decide_eq_true hx; omega)
            refine wl_skip HF rfl rfl rfl rfl rfl rfl ?_; clear HF; clear a; intro a HF
            refine wl_skip HF rfl rfl rfl rfl rfl rfl ?_; clear HF; clear a; intro a HF
            refine wl_skip HF rfl rfl rfl rfl rfl rfl ?_; clear HF; clear a; intro a HF
            refine wl_skip HF rfl rfl rfl rfl rfl rfl ?_; clear HF; clear a; intro a HF
            refine wl_y rfl HF rfl rfl (yl_pick_f rfl (HF.ev rfl) (HF.ev rfl)) ?_; clear HF; clear a; intro a HF
            refine wl_y rfl HF rfl rfl (yl_assign rfl (HF.ev rfl)) ?_; clear HF; clear a; intro a HF
            refine wpList_nil ?_
            refine ex_then ?_
            refine wp_ret ?_
            refine bp_ret1 HF Try.results68 (HF.res rfl) ?_
            have hpp : (fun k => !!waitB d k) = waitB d := by funext k; simp
            have hok : d.ok = false := by unfold DiskD.ok; rw [q1, q2, q3, q4, hcells]; simp [hpp]
            exact ⟨by rw [hok], HS.out.bel⟩
        · clear HF; have HF := HF1; clear HF1
          have q3 : d.fGone = false := cc7
          refine wl_skip HF rfl rfl rfl rfl rfl rfl ?_; clear HF; clear a; intro a HF
          refine wl_skip HF rfl rfl rfl rfl rfl rfl ?_; clear HF; clear a; intro a HF
          refine wl_skip HF rfl rfl rfl rfl rfl rfl ?_; clear HF; clear a; intro a HF
          refine wl_skip HF rfl rfl rfl rfl rfl rfl ?_; clear HF; clear a; intro a HF
          refine wl_y rfl HF rfl rfl (yl_pick_f rfl (HF.ev rfl) (HF.ev rfl)) ?_; clear HF; clear a; intro a HF
          refine wl_y rfl HF rfl rfl (yl_not rfl (HF.ev rfl)) ?_; clear HF; clear a; intro a HF
          refine wl_y rfl HF rfl rfl (yl_move rfl (HF.ev rfl)) ?_; clear HF; clear a; intro a HF
          refine wl_yg HF rfl rfl rfl rfl rfl (yl_fieldAddr (j := 1) rfl (HF.ev rfl) (by kernel_rfl)) ?_; clear HF; clear a; intro a HF
          refine wl_yg HF rfl rfl rfl rfl rfl (yl_load (v := .slice a1 d.fWaits.length c1) rfl (HF.ev rfl) (((HS.out.box 0 rfl).cell 1).trans rfl) (by kernel_rfl)) ?_; clear HF; clear a; intro a HF
          refine wl_callBg HF rfl rfl rfl rfl (enter_of Try.func130 (by kernel_rfl) rfl) (args := #[.slice a1 d.fWaits.length c1, .func (.func 131) #[] #[]]) rfl (v := .bool (!allB (fun k => !!waitB d k) d.fWaits.length)) (containsFuncW_any a1 c1 d.fWaits 131 #[] (fun k => !waitB d k) _ (by omega) (enter_of Try.func131 (by kernel_rfl) rfl) (HW.out.below HS.out.bel) (fun k hk w hb => by have := badWaitF_any (d.fWaits.getD k default).fAt (d.fWaits.getD k default).fText w (hx k); rw [badWaitF_eq] at this; exact this)) rfl rfl HS.out ?_; clear HF HS; clear a; intro w4 a HS HF; replace HS := Bx.mk HS
          refine wl_yg HF rfl rfl rfl rfl rfl (yl_not rfl (HF.ev rfl)) ?_; clear HF; clear a; intro a HF
          refine wl_y rfl HF rfl rfl (yl_pick_t rfl (HF.ev rfl) (HF.ev rfl)) ?_; clear HF; clear a; intro a HF
          refine wl_y rfl HF rfl rfl (yl_assign rfl (HF.ev rfl)) ?_; clear HF; clear a; intro a HF
          refine wpList_nil ?_
          refine ex_then ?_
          refine wp_ret ?_
          refine bp_ret1 HF Try.results68 (HF.res rfl) ?_
          have hpp : (fun k => !!waitB d k) = waitB d := by funext k; simp
          have hok : d.ok = !(!allB (fun k => !!waitB d k) d.fWaits.length) := by unfold DiskD.ok; rw [q1, q2, q3, hcells]; simp [hpp]
          exact ⟨by rw [hok], HS.out.bel⟩

structure DiskD.fits (d : DiskD) : Prop where
  c : d.fCells.length ≤ 1048576
  w : d.fWaits.length ≤ 1048576
  cz : ∀ k, (d.fCells.getD k ByteArray.empty).size ≤ 9223372036854775807
  wz : ∀ k, (d.fWaits.getD k default).fText.size ≤ 9223372036854775807
def okR (ds : List DiskD) : Bool := decide (ds.length = 3) && allB (fun k => (ds.getD k default).ok) ds.length
def dsOf (ps : List HD) : List DiskD := ps.map HD.d
theorem dsOf_len (ps : List HD) : (dsOf ps).length = ps.length := List.length_map ..
theorem dsOf_get (ps : List HD) (k : Nat) : (dsOf ps).getD k default = (ps.getD k default).d := by
  unfold dsOf
  simp only [List.getD_eq_getElem?_getD, List.getElem?_map]
  cases ps[k]? <;> rfl
theorem okR_ps (ps : List HD) : okR (dsOf ps) = (decide (ps.length = 3) && allB (fun k => (ps.getD k default).d.ok) ps.length) := by
  unfold okR
  rw [dsOf_len]
  simp only [dsOf_get]

set_option maxHeartbeats 1000000 in
set_option maxRecDepth 100000 in
theorem raidOk1_any (p : HD) (w0 : World) (hf : p.d.fits) (hp : p.reads w0) : Calls Try.prog 119 #[.agg #[.slice p.a0 p.d.fCells.length p.c0, .slice p.a1 p.d.fWaits.length p.c1, .bool p.d.fGone]] w0 fun e w' => e = .returned (.bool (!p.d.ok)) ∧ Below w0.heap.size w0 w' := by
  have HP := Bx.mk hp; clear hp
  have HS := Bx.mk (St.start w0)
  refine wc_enter Try.func119 rfl Try.ntmps119 [(0, .agg #[.slice p.a0 p.d.fCells.length p.c0, .slice p.a1 p.d.fWaits.length p.c1, .bool p.d.fGone])] ⟨rfl, trivial⟩ rfl ?_; intro a HF
  refine wp_seq ?_
  refine wp_region_lit ?_
  refine wl_box rfl HF rfl (HF.ev rfl) (Z := [.slice p.a0 p.d.fCells.length p.c0, .slice p.a1 p.d.fWaits.length p.c1, .bool p.d.fGone]) rfl rfl rfl rfl HS.out ?_; clear HF HS; clear a; intro a w1 b1 HF HS; replace HS := Bx.mk HS
  refine wl_y rfl HF rfl rfl (yl_assign rfl (HF.ev rfl)) ?_; clear HF; clear a; intro a HF
  refine wpList_nil ?_
  refine ex_then ?_
  refine wp_seq ?_
  refine wp_region_lit ?_
  refine wl_y rfl HF rfl rfl (yl_loadR (cs := [.slice p.a0 p.d.fCells.length p.c0, .slice p.a1 p.d.fWaits.length p.c1, .bool p.d.fGone]) rfl (HF.ev rfl) ((HS.out.box 0 rfl).sub 0 3) (by kernel_rfl)) ?_; clear HF; clear a; intro a HF
  refine wl_callB rfl HF rfl (enter_of Try.func68 (by kernel_rfl) rfl) (args := #[.agg #[.slice p.a0 p.d.fCells.length p.c0, .slice p.a1 p.d.fWaits.length p.c1, .bool p.d.fGone]]) rfl (v := .bool p.d.ok) (implDiskOk_any p.a0 p.c0 p.a1 p.c1 p.d _ hf.c hf.w hf.cz hf.wz (HP.out.below HS.out.bel).rc (HP.out.below HS.out.bel).rw) rfl rfl HS.out ?_; clear HF HS; clear a; intro w2 a HS HF; replace HS := Bx.mk HS
  refine wl_y rfl HF rfl rfl (yl_not rfl (HF.ev rfl)) ?_; clear HF; clear a; intro a HF
  refine wl_y rfl HF rfl rfl (yl_assign rfl (HF.ev rfl)) ?_; clear HF; clear a; intro a HF
  refine wpList_nil ?_
  refine ex_then ?_
  refine wp_ret ?_
  refine bp_ret1 HF Try.results119 (HF.res rfl) ?_
  exact ⟨rfl, HS.out.bel⟩

set_option maxHeartbeats 1000000 in
set_option maxRecDepth 100000 in
theorem implRaidOk_any (a0 : Option Addr) (c0 : Nat) (ps : List HD) (w0 : World) (hl : ps.length ≤ 1048576) (hf : ∀ k, (ps.getD k default).d.fits) (hR : Rd HD.cells 3 w0 a0 ps.length ps) (hP : ∀ k, k < ps.length → (ps.getD k default).reads w0) : Calls Try.prog 45 #[.agg #[.slice a0 ps.length c0]] w0 fun e w' => e = .returned (.bool (okR (dsOf ps))) ∧ Below w0.heap.size w0 w' := by
  have HR := Bx.mk hR; have HP := Bx.mk hP; clear hR hP
  have HS := Bx.mk (St.start w0)
  refine wc_enter Try.func45 rfl Try.ntmps45 [(0, .agg #[.slice a0 ps.length c0])] ⟨rfl, trivial⟩ rfl ?_; intro a HF
  refine wp_seq ?_
  refine wp_region_lit ?_
  refine wl_box rfl HF rfl (HF.ev rfl) (Z := [.slice a0 ps.length c0]) rfl rfl rfl rfl HS.out ?_; clear HF HS; clear a; intro a w1 b1 HF HS; replace HS := Bx.mk HS
  refine wl_y rfl HF rfl rfl (yl_assign rfl (HF.ev rfl)) ?_; clear HF; clear a; intro a HF
  refine wpList_nil ?_
  refine ex_then ?_
  refine wp_seq ?_
  refine wp_region_lit ?_
  refine wl_y rfl HF rfl rfl (yl_fieldAddr (j := 0) rfl (HF.ev rfl) (by kernel_rfl)) ?_; clear HF; clear a; intro a HF
  refine wl_y rfl HF rfl rfl (yl_load (v := .slice a0 ps.length c0) rfl (HF.ev rfl) (((HS.out.box 0 rfl).cell 0).trans rfl) (by kernel_rfl)) ?_; clear HF; clear a; intro a HF
  refine wl_y rfl HF rfl rfl (yl_lenL (e := 44) (size := 3) rfl (HF.ev rfl) (by kernel_rfl)) ?_; clear HF; clear a; intro a HF
  refine wl_y rfl HF rfl rfl (yl_eqlI rfl (HF.ev rfl) (HF.ev rfl)) ?_; clear HF; clear a; intro a HF
  refine wl_y rfl HF rfl rfl (yl_move rfl (HF.ev rfl)) ?_; clear HF; clear a; intro a HF
  refine HF.cases 7 rfl (fun cc1 HF1 => ?_) (fun cc1 HF1 => ?_)
  · clear HF; have HF := HF1; clear HF1
    have dcc1 := eq_of_beq cc1
    refine wl_yg HF rfl rfl rfl rfl rfl (yl_fieldAddr (j := 0) rfl (HF.ev rfl) (by kernel_rfl)) ?_; clear HF; clear a; intro a HF
    refine wl_yg HF rfl rfl rfl rfl rfl (yl_load (v := .slice a0 ps.length c0) rfl (HF.ev rfl) (((HS.out.box 0 rfl).cell 0).trans rfl) (by kernel_rfl)) ?_; clear HF; clear a; intro a HF
    refine wl_callBg HF rfl rfl rfl rfl (enter_of Try.func118 (by kernel_rfl) rfl) (args := #[.slice a0 ps.length c0, .func (.func 119) #[] #[]]) rfl (v := .bool (!allB (fun k => !!(ps.getD k default).d.ok) ps.length)) (containsFuncD_any a0 c0 ps 119 #[] (fun k => !(ps.getD k default).d.ok) _ (by omega) (enter_of Try.func119 (by kernel_rfl) rfl) (HR.out.below HS.out.bel) (fun k hk w hb => raidOk1_any (ps.getD k default) w (hf k) (((HP.out k hk).below HS.out.bel).below hb))) rfl rfl HS.out ?_; clear HF HS; clear a; intro w2 a HS HF; replace HS := Bx.mk HS
    refine wl_yg HF rfl rfl rfl rfl rfl (yl_not rfl (HF.ev rfl)) ?_; clear HF; clear a; intro a HF
    refine wl_y rfl HF rfl rfl (yl_pick_t rfl (HF.ev rfl) (HF.ev rfl)) ?_; clear HF; clear a; intro a HF
    refine wl_y rfl HF rfl rfl (yl_assign rfl (HF.ev rfl)) ?_; clear HF; clear a; intro a HF
    refine wpList_nil ?_
    refine ex_then ?_
    refine wp_ret ?_
    refine bp_ret1 HF Try.results45 (HF.res rfl) ?_
    have hpp : (fun k => !!(ps.getD k default).d.ok) = (fun k => (ps.getD k default).d.ok) := by funext k; simp
    exact ⟨by rw [okR_ps, decide_eq_true (by omega)]; simp [hpp], HS.out.bel⟩
  · clear HF; have HF := HF1; clear HF1
    have dcc1 := ne_of_beq_false cc1
    refine wl_skip HF rfl rfl rfl rfl rfl rfl ?_; clear HF; clear a; intro a HF
    refine wl_skip HF rfl rfl rfl rfl rfl rfl ?_; clear HF; clear a; intro a HF
    refine wl_skip HF rfl rfl rfl rfl rfl rfl ?_; clear HF; clear a; intro a HF
    refine wl_skip HF rfl rfl rfl rfl rfl rfl ?_; clear HF; clear a; intro a HF
    refine wl_y rfl HF rfl rfl (yl_pick_f rfl (HF.ev rfl) (HF.ev rfl)) ?_; clear HF; clear a; intro a HF
    refine wl_y rfl HF rfl rfl (yl_assign rfl (HF.ev rfl)) ?_; clear HF; clear a; intro a HF
    refine wpList_nil ?_
    refine ex_then ?_
    refine wp_ret ?_
    refine bp_ret1 HF Try.results45 (HF.res rfl) ?_
    have hpp : (fun k => !!(ps.getD k default).d.ok) = (fun k => (ps.getD k default).d.ok) := by funext k; simp
    exact ⟨by rw [okR_ps, decide_eq_false (by omega)]; rfl, HS.out.bel⟩

set_option maxHeartbeats 1000000 in
set_option maxRecDepth 100000 in
theorem specRaidOk_any (a0 : Option Addr) (c0 : Nat) (ps : List HD) (w0 : World) (hl : ps.length ≤ 1048576) (hf : ∀ k, (ps.getD k default).d.fits) (hR : Rd HD.cells 3 w0 a0 ps.length ps) (hP : ∀ k, k < ps.length → (ps.getD k default).reads w0) : Calls Try.prog 51 #[.agg #[.slice a0 ps.length c0]] w0 fun e w' => e = .returned (.bool (okR (dsOf ps))) ∧ Below w0.heap.size w0 w' := by
  have HR := Bx.mk hR; have HP := Bx.mk hP; clear hR hP
  have HS := Bx.mk (St.start w0)
  refine wc_enter Try.func51 rfl Try.ntmps51 [(0, .agg #[.slice a0 ps.length c0])] ⟨rfl, trivial⟩ rfl ?_; intro a HF
  refine wp_seq ?_
  refine wp_region_lit ?_
  refine wl_box rfl HF rfl (HF.ev rfl) (Z := [.slice a0 ps.length c0]) rfl rfl rfl rfl HS.out ?_; clear HF HS; clear a; intro a w1 b1 HF HS; replace HS := Bx.mk HS
  refine wl_y rfl HF rfl rfl (yl_assign rfl (HF.ev rfl)) ?_; clear HF; clear a; intro a HF
  refine wpList_nil ?_
  refine ex_then ?_
  refine wp_seq ?_
  refine wp_seq ?_
  refine wp_region_lit ?_
  refine wl_y rfl HF rfl rfl (yl_assign rfl (HF.ev rfl)) ?_; clear HF; clear a; intro a HF
  refine wpList_nil ?_
  refine ex_then ?_
  refine wp_block ?_
  refine wc_loop (ι := Nat) (fun k a w => (k ≤ ps.length ∧ allB (fun k => (ps.getD k default).d.ok) k = true) ∧ Fr 22 a [(1, .pointer (some ⟨b1, 0, none⟩)), (3, .int .i64 (k : Int))] ∧ St w0 ([boxA b1 1 25 (.agg #[.slice a0 ps.length c0])]) w) (fun k => ps.length - k) 0 ⟨⟨Nat.zero_le _, rfl⟩, HF.less _ ⟨rfl, rfl, trivial⟩, HS.out⟩ ?_
  clear HF HS; clear a
  rintro k a w2 ⟨⟨hk, hf2⟩, HF, HS⟩
  replace HS := Bx.mk HS
  refine wp_seq ?_
  refine wp_seq ?_
  refine wp_region_lit ?_
  refine wl_y rfl HF rfl rfl (yl_move rfl (HF.ev rfl)) ?_; clear HF; clear a; intro a HF
  refine wl_y rfl HF rfl rfl (yl_fieldAddr (j := 0) rfl (HF.ev rfl) (by kernel_rfl)) ?_; clear HF; clear a; intro a HF
  refine wl_y rfl HF rfl rfl (yl_load (v := .slice a0 ps.length c0) rfl (HF.ev rfl) (((HS.out.box 0 rfl).cell 0).trans rfl) (by kernel_rfl)) ?_; clear HF; clear a; intro a HF
  refine wl_y rfl HF rfl rfl (yl_lenL (e := 44) (size := 3) rfl (HF.ev rfl) (by kernel_rfl)) ?_; clear HF; clear a; intro a HF
  refine wl_y rfl HF rfl rfl (yl_lssI rfl (HF.ev rfl) (HF.ev rfl)) ?_; clear HF; clear a; intro a HF
  refine wpList_nil ?_
  refine ex_then ?_
  refine HF.cases 8 rfl (fun cc1 HF1 => ?_) (fun cc1 HF1 => ?_)
  · clear HF; have HF := HF1; clear HF1
    have dcc1 := of_decide_eq_true cc1
    refine wc_true HF rfl ?_
    refine wp_skip ?_
    refine ex_then ?_
    refine wp_seq ?_
    refine wp_block ?_
    refine wp_seq ?_
    obtain ⟨g0, o0, r0⟩ := HR.out.opn; have R0 := Bx.mk r0; clear r0
    refine wp_region_lit ?_
    refine wl_y rfl HF rfl rfl (yl_fieldAddr (j := 0) rfl (HF.ev rfl) (by kernel_rfl)) ?_; clear HF; clear a; intro a HF
    refine wl_y rfl HF rfl rfl (yl_load (v := .slice a0 ps.length c0) rfl (HF.ev rfl) (((HS.out.box 0 rfl).cell 0).trans rfl) (by kernel_rfl)) ?_; clear HF; clear a; intro a HF
    refine wl_y rfl HF rfl rfl (yl_move rfl (HF.ev rfl)) ?_; clear HF; clear a; intro a HF
    refine wl_y rfl HF rfl rfl (yl_indexAddrR (e := 44) (i := k) (size := 3) rfl (HF.ev rfl) (HF.ev rfl) (by kernel_rfl) rfl (by omega) (R0.out.ao k (by omega))) ?_; clear HF; clear a; intro a HF
    refine wl_y rfl HF rfl rfl (yl_loadR (cs := [.slice ((ps.getD k default).a0) ((ps.getD k default).d.fCells.length) ((ps.getD k default).c0), .slice ((ps.getD k default).a1) ((ps.getD k default).d.fWaits.length) ((ps.getD k default).c1), .bool ((ps.getD k default).d.fGone)]) rfl (HF.ev rfl) (R0.out.elem HS.out (get_getD (xs := ps) (j := k) (d := default) (by omega))) (by kernel_rfl)) ?_; clear HF; clear a; intro a HF
    refine wl_callB rfl HF rfl (enter_of Try.func122 (by kernel_rfl) rfl) (args := #[.agg #[.slice ((ps.getD k default).a0) ((ps.getD k default).d.fCells.length) ((ps.getD k default).c0), .slice ((ps.getD k default).a1) ((ps.getD k default).d.fWaits.length) ((ps.getD k default).c1), .bool ((ps.getD k default).d.fGone)]]) rfl (v := .bool ((ps.getD k default).d.ok)) (specDiskOk_any (ps.getD k default).a0 (ps.getD k default).c0 (ps.getD k default).a1 (ps.getD k default).c1 (ps.getD k default).d _ (hf k).c (hf k).w (hf k).cz ((HP.out k (by omega)).below HS.out.bel).rc ((HP.out k (by omega)).below HS.out.bel).rw) rfl rfl HS.out ?_; clear HF HS; clear a; intro w3 a HS HF; replace HS := Bx.mk HS
    refine wl_y rfl HF rfl rfl (yl_not rfl (HF.ev rfl)) ?_; clear HF; clear a; intro a HF
    refine wpList_nil ?_
    refine ex_then ?_
    refine HF.cases 17 rfl (fun cc2 HF1 => ?_) (fun cc2 HF1 => ?_)
    · clear HF; have HF := HF1; clear HF1
      refine wc_true HF rfl ?_
      refine wp_seq ?_
      refine wp_region_lit ?_
      refine wl_y rfl HF rfl rfl (yl_assign rfl (HF.ev rfl)) ?_; clear HF; clear a; intro a HF
      refine wpList_nil ?_
      refine ex_then ?_
      refine wp_ret ?_
      refine ex_block_ret ?_
      refine ex_then_ret ?_
      refine ex_then_ret ?_
      refine ex_block_ret ?_
      refine ex_then_ret ?_
      refine bp_ret1 HF Try.results51 (HF.res rfl) ?_
      have hp : (ps.getD k default).d.ok = false := by simpa using cc2
      exact ⟨by rw [okR_ps, allB_false (p := fun k => (ps.getD k default).d.ok) (k := k) hp (by omega)]; simp, HS.out.bel⟩
    · clear HF; have HF := HF1; clear HF1
      refine wc_false HF rfl ?_
      refine wp_skip ?_
      refine ex_block ?_
      refine ex_then ?_
      refine wp_region_lit ?_
      refine wl_y rfl HF rfl rfl (yl_move rfl (HF.ev rfl)) ?_; clear HF; clear a; intro a HF
      refine wl_y rfl HF rfl rfl (yl_addI rfl (HF.ev rfl) (HF.ev rfl) (i64w (by omega))) ?_; clear HF; clear a; intro a HF
      refine wl_y rfl HF rfl rfl (yl_assign rfl (HF.ev rfl)) ?_; clear HF; clear a; intro a HF
      refine wpList_nil ?_
      refine ex_then ?_
      have hp : (ps.getD k default).d.ok = true := by simpa using cc2
      exact ⟨k + 1, ⟨⟨by omega, by unfold allB; rw [hf2, hp]; rfl⟩, HF.less _ ⟨rfl, rfl, trivial⟩, HS.out⟩, (by omega)⟩
  · clear HF; have HF := HF1; clear HF1
    have dcc1 := of_decide_eq_false cc1
    refine wc_false HF rfl ?_
    refine wp_exit ?_
    refine ex_then_exit ?_
    refine ex_then_exit ?_
    refine ex_block_hit ?_
    refine ex_then ?_
    refine wp_seq ?_
    refine wp_region_lit ?_
    refine wl_y rfl HF rfl rfl (yl_fieldAddr (j := 0) rfl (HF.ev rfl) (by kernel_rfl)) ?_; clear HF; clear a; intro a HF
    refine wl_y rfl HF rfl rfl (yl_load (v := .slice a0 ps.length c0) rfl (HF.ev rfl) (((HS.out.box 0 rfl).cell 0).trans rfl) (by kernel_rfl)) ?_; clear HF; clear a; intro a HF
    refine wl_y rfl HF rfl rfl (yl_lenL (e := 44) (size := 3) rfl (HF.ev rfl) (by kernel_rfl)) ?_; clear HF; clear a; intro a HF
    refine wl_y rfl HF rfl rfl (yl_eqlI rfl (HF.ev rfl) (HF.ev rfl)) ?_; clear HF; clear a; intro a HF
    refine wl_y rfl HF rfl rfl (yl_assign rfl (HF.ev rfl)) ?_; clear HF; clear a; intro a HF
    refine wpList_nil ?_
    refine ex_then ?_
    refine wp_ret ?_
    refine bp_ret1 HF Try.results51 (HF.res rfl) ?_
    obtain rfl : k = ps.length := by omega
    exact ⟨by rw [okR_ps, hf2, Bool.and_true]; congr 2; by_cases h3 : ps.length = 3 <;> simp [h3]; omega, HS.out.bel⟩

end Go.Proofs.Ytfijfjjleelphaa

/- slices.Clone of waiting writes. -/
namespace Go.Proofs.Ytfijfjjleelphaa
open Go.RowKit

set_option maxHeartbeats 400000 in
set_option maxRecDepth 100000 in
theorem cloneW_any (ao : Option Addr) (cap : Nat) (xs : List WaitD) (w : World) (hlen : xs.length ≤ 1048576) (hr : Rd WaitD.cells 2 w ao xs.length xs) :
    Calls Try.prog 121 #[.slice ao xs.length cap] w fun e w' => (∃ ao' cap', e = .returned (.slice ao' xs.length cap') ∧ RowO WaitD.cells 2 144 w' w.heap.size w'.heap.size (.slice ao' xs.length cap') xs) ∧ Below w.heap.size w w' := by
  have hb1 : Below w.heap.size w (w.alloc (.cells #[] 144)) := (Below.refl _ _).alloc (Nat.le_refl _) _
  have H1 := Bx.mk hb1
  have HN := Bx.mk (hr.below hb1)
  clear hb1
  cases ao with
  | none =>
    obtain rfl := rd_nil hr
    clear hr
    have hq := fun (w : World) => run_eql_slice_nil (P := Try.prog) w 42 144 none 0 cap Try.underlying42
    go_enter Try.func121, Try.ntmps121
    go_wp2
    go_ret
    exact ⟨⟨_, _, rfl, RowO.empty _ _ _ _ _ _ _⟩, Below.refl _ _⟩
  | some a =>
    obtain ⟨i0, hi, hz0, hz1, hz2⟩ := info_parts Try.infoWaitS
    clear hr
    have hq := fun (w : World) => run_eql_slice_nil (P := Try.prog) w 42 144 (some a) xs.length cap Try.underlying42
    go_enter Try.func121, Try.ntmps121
    go_wp2_with (at_builtin; refine wpList_append_own _ rfl (.tmp 5) (.tmp 6) 42 rfl w.heap.size 144 i0 _ 2 24 Try.underlying42 hi hz0 hz1 hz2 rfl (by decide) _ 0 [] rfl (owns_made w 144 2) a xs.length cap (xs.flatMap WaitD.cells) rfl (flat_len _ _ WaitD.cells_len xs) (HN.out.news WaitD.cells_len (by decide)) (cells_one_W xs) ?b1 ?b2 ?b3 ?_)
    case b1 => unfold maxLen; omega
    case b2 => omega
    case b3 => simp
    intro v w2 hown hg _
    obtain ⟨ao', cap', rfl, _⟩ := owns_slice hown
    go_wp2
    go_ret
    exact ⟨⟨_, _, rfl, RowO.mk hown (fun g h => (hown.lt g h).2)⟩, H1.out.grown hg H1.out.size (by simp [Value.ownBlock])⟩
end Go.Proofs.Ytfijfjjleelphaa

/- Drawn regions that first read (and call), then write: what holds of the world is asked only until a marked operation has come up. -/
namespace Go.Proofs.Ytfijfjjleelphaa
open Go.RowKit

section
variable {P : Program} {md : Region.Mode} {ops : Array Oper} {Q : Exit → Act → World → Prop} {S : World → Prop} {m : Nat}
def wpAnyM (P : Program) (md : Region.Mode) (ops : Array Oper) (Q : Exit → Act → World → Prop) (S : World → Prop) (m : Nat) : Nat → Array Bool → Act → World → Prop
  | 0, listed, a, w => Region.ready md ops listed = [] ∧ Q .normal a w
  | fuel + 1, listed, a, w =>
    (Region.ready md ops listed = [] → Q .normal a w) ∧
    ∀ i ∈ Region.ready md ops listed, wpOp P ops Q i (fun a' w' => ((listed.setIfInBounds i true).getD m true = false → S w') ∧ wpAnyM P md ops Q S m fuel (listed.setIfInBounds i true) a' w') a w
theorem wpAny_of_M : ∀ (fuel : Nat) (listed : Array Bool) (a : Act) (w : World), wpAnyM P md ops Q S m fuel listed a w → wpAny P md ops Q fuel listed a w
  | 0, _, _, _, h => h
  | fuel + 1, _, _, _, h => ⟨h.1, fun i hi => wpOp_mono (fun a' w' h' => wpAny_of_M fuel _ a' w' h'.2) (h.2 i hi)⟩
/-- A read that the marked operation waits for may be taken first. -/
theorem wpAnyM_first {i : Nat} {oi : Oper} {v : Value} (hi : ops[i]? = some oi) (hsel : ∀ (j : Nat) (o : Oper) cs b, ops[j]? = some o → o.op ≠ .select cs b)
    (hQ : ∀ c a w, Q (.panic c) (a.put oi.dst v) w → Q (.panic c) a w) (him : i ≠ m) (hdep : ∀ om, ops[m]? = some om → ∃ e ∈ om.after, Region.binds md e = true ∧ e.on = i) :
    ∀ (fuel : Nat) (listed : Array Bool) (a : Act) (w : World),
      (∀ j oj, ops[j]? = some oj → j ≠ i → listed.getD j true = false → (∀ e ∈ oj.after, Region.binds md e = true → e.on ≠ i) → oi.apart ops oj = true) →
      i ∈ Region.ready md ops listed → YieldsIf P ops S oi v a → listed.getD m true = false → S w →
      wpAnyM P md ops Q S m fuel (listed.setIfInBounds i true) (a.put oi.dst v) w → wpAnyM P md ops Q S m (fuel + 1) listed a w := by
  intro fuel
  induction fuel with
  | zero =>
    intro listed a w _ hr hy hm hS H
    refine ⟨fun h => (by rw [h] at hr; cases hr), fun j hj => ?_⟩
    by_cases hji : j = i
    · subst hji; exact hy.wpOp hi hS ⟨fun _ => hS, H⟩
    · have := ready_mono hj hji
      rw [H.1] at this
      cases this
  | succ fuel ih =>
    intro listed a w hfree hr hy hm hS H
    refine ⟨fun h => (by rw [h] at hr; cases hr), fun j hj => ?_⟩
    by_cases hji : j = i
    · subst hji; exact hy.wpOp hi hS ⟨fun _ => hS, H⟩
    · have h1 := H.2 j (ready_mono hj hji)
      obtain ⟨hjun, oj, hoj, hall⟩ := mem_ready.1 hj
      have hnot : ∀ e ∈ oj.after, Region.binds md e = true → e.on ≠ i := fun e he hb heq => by
        have h1 := hall e he hb
        have h0 := (mem_ready.1 hr).1
        rw [heq] at h1
        rcases Nat.lt_or_ge i listed.size with h' | h'
        · simp [h'] at h0 h1; rw [h0] at h1; cases h1
        · simp [Array.getElem?_eq_none h'] at h1
      have hjm : j ≠ m := fun e => by
        subst e
        obtain ⟨e, he, hb, hon⟩ := hdep oj hoj
        exact hnot e he hb hon
      have h2 := wpOp_putIf hoj (hfree j oj hoj hji hjun hnot) (fun cs b => hsel i oi cs b hi) (fun cs b => hsel j oj cs b hoj) hQ hy h1
      have hfree' : ∀ k ok, ops[k]? = some ok → k ≠ i → (listed.setIfInBounds j true).getD k true = false →
          (∀ e ∈ ok.after, Region.binds md e = true → e.on ≠ i) → oi.apart ops ok = true := fun k ok hk hki hun hno => by
        refine hfree k ok hk hki ?_ hno
        by_cases hjk : j = k
        · subst hjk; exact hjun
        · rw [getD_set_ne true hjk] at hun; exact hun
      have hmj : (listed.setIfInBounds j true).getD m true = false := by rw [getD_set_ne true hjm]; exact hm
      refine wpOp_mono (fun a' w' h3 => ?_) h2
      have hS' : S w' := h3.2.1 (by rw [getD_set_ne true hjm, getD_set_ne true him]; exact hm)
      refine ⟨fun _ => hS', ih (listed.setIfInBounds j true) a' w' hfree' (ready_mono hr (Ne.symm hji)) h3.1 hmj hS' ?_⟩
      rw [Array.setIfInBounds_comm _ _ hji]
      exact h3.2.2
/-- What yields in every world may be taken first. -/
theorem wpAnyM_firstT {i : Nat} {oi : Oper} {v : Value} (hi : ops[i]? = some oi) (hsel : ∀ (j : Nat) (o : Oper) cs b, ops[j]? = some o → o.op ≠ .select cs b)
    (hQ : ∀ c a w, Q (.panic c) (a.put oi.dst v) w → Q (.panic c) a w) (him : i ≠ m) :
    ∀ (fuel : Nat) (listed : Array Bool) (a : Act) (w : World),
      (∀ j oj, ops[j]? = some oj → j ≠ i → listed.getD j true = false → (∀ e ∈ oj.after, Region.binds md e = true → e.on ≠ i) → oi.apart ops oj = true) →
      i ∈ Region.ready md ops listed → YieldsIf P ops (fun _ => True) oi v a → (listed.getD m true = false → S w) →
      wpAnyM P md ops Q S m fuel (listed.setIfInBounds i true) (a.put oi.dst v) w → wpAnyM P md ops Q S m (fuel + 1) listed a w := by
  intro fuel
  induction fuel with
  | zero =>
    intro listed a w _ hr hy hS H
    refine ⟨fun h => (by rw [h] at hr; cases hr), fun j hj => ?_⟩
    by_cases hji : j = i
    · subst hji; exact hy.wpOp hi trivial ⟨fun h => hS (by rw [getD_set_ne true him] at h; exact h), H⟩
    · have := ready_mono hj hji
      rw [H.1] at this
      cases this
  | succ fuel ih =>
    intro listed a w hfree hr hy hS H
    refine ⟨fun h => (by rw [h] at hr; cases hr), fun j hj => ?_⟩
    by_cases hji : j = i
    · subst hji; exact hy.wpOp hi trivial ⟨fun h => hS (by rw [getD_set_ne true him] at h; exact h), H⟩
    · have h1 := H.2 j (ready_mono hj hji)
      obtain ⟨hjun, oj, hoj, hall⟩ := mem_ready.1 hj
      have hnot : ∀ e ∈ oj.after, Region.binds md e = true → e.on ≠ i := fun e he hb heq => by
        have h1 := hall e he hb
        have h0 := (mem_ready.1 hr).1
        rw [heq] at h1
        rcases Nat.lt_or_ge i listed.size with h' | h'
        · simp [h'] at h0 h1; rw [h0] at h1; cases h1
        · simp [Array.getElem?_eq_none h'] at h1
      have h2 := wpOp_putIf hoj (hfree j oj hoj hji hjun hnot) (fun cs b => hsel i oi cs b hi) (fun cs b => hsel j oj cs b hoj) hQ hy h1
      have hfree' : ∀ k ok, ops[k]? = some ok → k ≠ i → (listed.setIfInBounds j true).getD k true = false →
          (∀ e ∈ ok.after, Region.binds md e = true → e.on ≠ i) → oi.apart ops ok = true := fun k ok hk hki hun hno => by
        refine hfree k ok hk hki ?_ hno
        by_cases hjk : j = k
        · subst hjk; exact hjun
        · rw [getD_set_ne true hjk] at hun; exact hun
      refine wpOp_mono (fun a' w' h3 => ?_) h2
      have hS' : (listed.setIfInBounds j true).getD m true = false → S w' := fun h => h3.2.1 (by rw [Array.setIfInBounds_comm _ _ (Ne.symm hji), getD_set_ne true him]; exact h)
      refine ⟨hS', ih (listed.setIfInBounds j true) a' w' hfree' (ready_mono hr (Ne.symm hji)) h3.1 hS' ?_⟩
      rw [Array.setIfInBounds_comm _ _ hji]
      exact h3.2.2
end
/-- Does the marked operation wait for this one? -/
def waitsB (ops : Array Oper) (m i : Nat) : Bool :=
  match ops[m]? with
  | some om => om.after.any fun e => Region.binds .any e && e.on == i
  | none => true
theorem waitsB_spec {ops : Array Oper} {m i : Nat} (h : waitsB ops m i = true) : ∀ om, ops[m]? = some om → ∃ e ∈ om.after, Region.binds .any e = true ∧ e.on = i := by
  intro om hom
  unfold waitsB at h
  rw [hom] at h
  simp only [Array.any_eq_true'] at h
  obtain ⟨e, he, hb⟩ := h
  rw [Bool.and_eq_true, beq_iff_eq] at hb
  exact ⟨e, he, hb.1, hb.2⟩
section
variable {P : Program} {ops : Array Oper} {Q : Exit → Act → World → Prop} {a : Act} {w W : World} {N : Nat} {l : List (Nat × Value)} {s : List Asr} {fuel m : Nat} {listed : Array Bool}
theorem wr_marked {id : Nat} {l : List Oper} (m : Nat) (hm : P.follows .mixedOrders = true)
    (h : wpAnyM P .any l.toArray Q (St W s) m l.length (Array.replicate l.length false) a w.drew) : (Code.region id l.toArray true).wp P Q a w :=
  wp_region_any hm (wpAny_of_M _ _ _ _ (by simpa using h))
theorem wm_y {oi : Oper} (i : Nat) (hi : ops[i]? = some oi) (hs : Region.noSelect ops = true) (hf : Region.free .any ops listed i = true) (hr : (Region.ready .any ops listed).contains i = true) {v : Value} (hQ : ∀ c a w, Q (.panic c) (a.put oi.dst v) w → Q (.panic c) a w)
    (him : i ≠ m) (hdep : waitsB ops m i = true) (hml : listed.getD m true = false) (hg : oi.guard = none) (hF : Fr N a l) {d : Nat} (hd : oi.dst = some d) (hN : Nat.blt d N = true) (hy : ∀ w, St W s w → Yl P w oi a v) (hS : St W s w) (h : ∀ a', Fr N a' ((d, v) :: l) → wpAnyM P .any ops Q (St W s) m fuel (listed.setIfInBounds i true) a' w) : wpAnyM P .any ops Q (St W s) m (fuel + 1) listed a w :=
  wpAnyM_first hi (Region.noSelect_spec hs) hQ him (waitsB_spec hdep) fuel listed a w (Region.free_spec hi hf) (by simpa using hr) (.inl ⟨wanted_none hg, hy⟩) hml hS (hd ▸ h _ (hF.put (Nat.le_of_ble_eq_true hN) v))
theorem wm_t {oi : Oper} (i : Nat) (hi : ops[i]? = some oi) (hs : Region.noSelect ops = true) (hf : Region.free .any ops listed i = true) (hr : (Region.ready .any ops listed).contains i = true) {v : Value} (hQ : ∀ c a w, Q (.panic c) (a.put oi.dst v) w → Q (.panic c) a w)
    (him : i ≠ m) (hg : oi.guard = none) (hF : Fr N a l) {d : Nat} (hd : oi.dst = some d) (hN : Nat.blt d N = true) (hy : ∀ w, True → Yl P w oi a v) (hS : listed.getD m true = false → St W s w) (h : ∀ a', Fr N a' ((d, v) :: l) → wpAnyM P .any ops Q (St W s) m fuel (listed.setIfInBounds i true) a' w) : wpAnyM P .any ops Q (St W s) m (fuel + 1) listed a w :=
  wpAnyM_firstT hi (Region.noSelect_spec hs) hQ him fuel listed a w (Region.free_spec hi hf) (by simpa using hr) (.inl ⟨wanted_none hg, hy⟩) hS (hd ▸ h _ (hF.put (Nat.le_of_ble_eq_true hN) v))
theorem wm_one (i : Nat) (hr : Region.ready .any ops listed = [i]) (h : wpOp P ops Q i (fun a' w' => ((listed.setIfInBounds i true).getD m true = false → St W s w') ∧ wpAnyM P .any ops Q (St W s) m fuel (listed.setIfInBounds i true) a' w') a w) : wpAnyM P .any ops Q (St W s) m (fuel + 1) listed a w :=
  ⟨fun h0 => (by rw [hr] at h0; cases h0), fun j hj => (by rw [hr] at hj; obtain rfl := List.mem_singleton.1 hj; exact h)⟩
theorem wm_done (hr : Region.ready .any ops listed = []) (h : Q .normal a w) : ∀ {fuel : Nat}, wpAnyM P .any ops Q (St W s) m fuel listed a w
  | 0 => ⟨hr, h⟩
  | _ + 1 => ⟨fun _ => h, by rw [hr]; simp⟩
end
end Go.Proofs.Ytfijfjjleelphaa

/- Disks in rows, put in and taken out; copies. -/
namespace Go.Proofs.Ytfijfjjleelphaa
open Go.RowKit

theorem St.swap {W w : World} {a b : Asr} {F : List Asr} (h : St W (a :: b :: F) w) : St W (b :: a :: F) w := h.perm (List.Perm.swap ..)
theorem St.midl {W w : World} {L C F : List Asr} (h : St W (L ++ (C ++ F)) w) : St W (C ++ (L ++ F)) w := by
  refine h.perm ?_
  rw [← List.append_assoc, ← List.append_assoc]
  exact (List.perm_append_comm).append_right F
theorem getD_get {α : Type} [Inhabited α] {xs : List α} {k : Nat} (h : k < xs.length) : xs.getD k default = xs[k] := by simp [List.getD, h]
/-- A disk out of a set of disks. -/
theorem St.hdOut {W w : World} {F : List Asr} {qs : List HD} (h : St W (sepA (qs.map HD.asr) :: F) w) (k : Nat) (hk : k < qs.length) : St W ((qs.getD k default).asr :: sepA ((qs.eraseIdx k).map HD.asr) :: F) w := by
  have h1 := St.join.2 h
  rw [getD_get hk]
  have hp : (qs.map HD.asr ++ F).Perm ((qs.eraseIdx k).map HD.asr ++ (qs[k].asr :: F)) := by
    refine (((pick_perm qs k hk).map HD.asr).append_right F).trans ?_
    rw [List.map_cons, List.cons_append]
    exact (List.perm_middle).symm
  exact (St.join.1 (h1.perm hp)).swap
theorem St.hdIn {W w : World} {F : List Asr} {qs : List HD} {q : HD} {k : Nat} (h : St W (q.asr :: sepA ((qs.eraseIdx k).map HD.asr) :: F) w) (hk : k < qs.length) : St W (sepA ((qs.set k q).map HD.asr) :: F) w := by
  have h1 := St.join.2 h.swap
  refine St.join.1 (h1.perm ?_)
  refine (List.perm_middle).trans ?_
  rw [← List.cons_append, ← List.map_cons]
  exact (((set_pick qs k q hk).map HD.asr).append_right F)
theorem St.hdSnoc {W w : World} {F : List Asr} {qs : List HD} {q : HD} (h : St W (q.asr :: sepA (qs.map HD.asr) :: F) w) : St W (sepA ((qs ++ [q]).map HD.asr) :: F) w := by
  have h1 := St.join.2 h.swap
  refine St.join.1 (h1.perm ?_)
  rw [List.map_append, List.map_cons, List.map_nil, List.append_assoc]
  exact List.Perm.refl _
theorem St.hdNil {W w : World} {F : List Asr} (h : St W F w) : St W (sepA (([] : List HD).map HD.asr) :: F) w := (St.join (r := []) (s := F)).1 h
theorem HD.asr_reads {W w : World} {F : List Asr} {q : HD} (h : St W (q.asr :: F) w) : q.reads w := by
  have h1 : St W ([_, _] ++ F) w := St.join.2 h
  obtain ⟨_, _, e0, r0⟩ := h1.rdS encS_len 0 rfl
  simp only [Value.slice.injEq, true_and] at e0
  obtain ⟨rfl, rfl⟩ := e0
  obtain ⟨_, _, e1, r1⟩ := h1.rdS WaitD.cells_len 1 rfl
  simp only [Value.slice.injEq, true_and] at e1
  obtain ⟨rfl, rfl⟩ := e1
  exact ⟨r0, r1⟩
theorem St.hdReads {W w : World} {s : List Asr} {qs : List HD} (h : St W s w) (i : Nat) (hi : s[i]? = some (sepA (qs.map HD.asr))) : ∀ k, k < qs.length → (qs.getD k default).reads w := fun _ hk => HD.asr_reads ((h.pick i hi).hdOut _ hk)
theorem dsOf_append (ps qs : List HD) : dsOf (ps ++ qs) = dsOf ps ++ dsOf qs := List.map_append ..
theorem dsOf_take_succ (ps : List HD) (k : Nat) (hk : k < ps.length) : dsOf (ps.take (k + 1)) = dsOf (ps.take k) ++ [(ps.getD k default).d] := by
  rw [List.take_succ_eq_append_getElem hk, dsOf_append, getD_get hk]; rfl
theorem elemD : ElemT Try.prog 23 44 3 56 := by
  obtain ⟨i0, hi, hz0, hz1, hz2⟩ := info_parts (P := Try.prog) (e := 44) (z := .agg #[.slice none 0 0, .slice none 0 0, .bool false]) (size := 3) (bytes := 56) (by kernel_rfl)
  exact ⟨Try.underlying23, ⟨i0, _, hi, hz0, hz1, hz2, rfl⟩, by decide⟩
theorem cells_one_D (xs : List HD) : ∀ u ∈ xs.flatMap HD.cells, u.oneCell' = true := by
  intro u hu
  obtain ⟨x, _, hx⟩ := List.mem_flatMap.1 hu
  simp only [HD.cells, List.mem_cons, List.not_mem_nil, or_false] at hx
  rcases hx with rfl | rfl | rfl <;> rfl
/-- A copy of a disk, as a header and its rows. -/
theorem hd_of_own {w w' : World} {v : Value} {d : DiskD} (h : DiskD.Own w' w.heap.size w'.heap.size v d) (hb : Below w.heap.size w w') : ∃ q : HD, q.d = d ∧ v = .agg #[.slice q.a0 q.d.fCells.length q.c0, .slice q.a1 q.d.fWaits.length q.c1, .bool q.d.fGone] ∧ St w [q.asr] w' := by
  obtain ⟨a0, c0, a1, c1, rfl, hs⟩ := DiskD.own_st h hb
  exact ⟨⟨a0, c0, a1, c1, d⟩, rfl, rfl, (St.join (r := [_, _]) (s := [])).1 hs⟩
theorem l3CopyH_any (p : HD) (w0 : World) (hr : p.reads w0) (hf : p.d.fits) : Calls Try.prog 124 #[.agg #[.slice p.a0 p.d.fCells.length p.c0, .slice p.a1 p.d.fWaits.length p.c1, .bool p.d.fGone]] w0 fun e w' => ∃ q : HD, q.d = p.d ∧ e = .returned (.agg #[.slice q.a0 q.d.fCells.length q.c0, .slice q.a1 q.d.fWaits.length q.c1, .bool q.d.fGone]) ∧ St w0 [q.asr] w' := by
  refine (l3Copy_any _ p.d w0 ⟨_, _, _, _, rfl, hr.rc, hr.rw⟩ hf.c hf.w).mono ?_
  rintro e w' ⟨v, rfl, ho, hb⟩
  obtain ⟨q, h1, rfl, h3⟩ := hd_of_own ho hb
  exact ⟨q, h1, rfl, h3⟩

set_option maxHeartbeats 1000000 in
set_option maxRecDepth 100000 in
theorem clone_any (p : HD) (w0 : World) (hr : p.reads w0) (hf : p.d.fits) : Calls Try.prog 49 #[.agg #[.slice p.a0 p.d.fCells.length p.c0, .slice p.a1 p.d.fWaits.length p.c1, .bool p.d.fGone]] w0 fun e w' => ∃ q : HD, q.d = p.d ∧ e = .returned (.agg #[.slice q.a0 q.d.fCells.length q.c0, .slice q.a1 q.d.fWaits.length q.c1, .bool q.d.fGone]) ∧ St w0 [q.asr] w' := by
  have HP := Bx.mk hr
  clear hr
  have HS := Bx.mk (St.start w0)
  refine wc_enter Try.func49 rfl Try.ntmps49 [(0, .agg #[.slice p.a0 p.d.fCells.length p.c0, .slice p.a1 p.d.fWaits.length p.c1, .bool p.d.fGone])] ⟨rfl, trivial⟩ rfl ?_; intro a HF
  refine wp_seq ?_
  refine wp_region_lit ?_
  refine wl_box rfl HF rfl (HF.ev rfl) (Z := [.slice p.a0 p.d.fCells.length p.c0, .slice p.a1 p.d.fWaits.length p.c1, .bool p.d.fGone]) rfl rfl rfl rfl HS.out ?_; clear HF HS; clear a; intro a w1 b1 HF HS; replace HS := Bx.mk HS
  refine wl_alloc rfl HF rfl rfl rfl (Z := [.slice none 0 0, .slice none 0 0, .bool false]) (by kernel_rfl) rfl HS.out ?_; clear HF HS; clear a; intro a w2 b2 HF HS; replace HS := Bx.mk HS
  refine wpList_nil ?_
  refine ex_then ?_
  refine wp_seq ?_
  refine wr_heldS (s := [boxA b1 3 44 (.agg #[.slice p.a0 p.d.fCells.length p.c0, .slice p.a1 p.d.fWaits.length p.c1, .bool p.d.fGone])]) (by kernel_rfl) (St.drew ((HS.out.erase 0))) ?_
  have HS2 := Bx.mk HS.out.drew; replace HS := Bx.mk (show St w0 ([boxA b1 3 44 (.agg #[.slice p.a0 p.d.fCells.length p.c0, .slice p.a1 p.d.fWaits.length p.c1, .bool p.d.fGone])]) _ from (HS.out.drew.erase 0))
  generalize World.drew _ = w3 at HS HS2 ⊢
  refine wh_y 0 rfl (by kernel_rfl) (by kernel_rfl) (by kernel_rfl) (fun _ _ _ h => h) rfl HF rfl rfl (fun _ HS => (yl_fieldAddr (j := 0) rfl (HF.ev rfl) (by kernel_rfl))) HS.out ?_; clear HF; clear a; intro a HF
  refine wh_y 1 rfl (by kernel_rfl) (by kernel_rfl) (by kernel_rfl) (fun _ _ _ h => h) rfl HF rfl rfl (fun _ HS => (yl_load (v := .slice p.a0 p.d.fCells.length p.c0) rfl (HF.ev rfl) (((HS.box 0 rfl).cell 0).trans rfl) (by kernel_rfl))) HS.out ?_; clear HF; clear a; intro a HF
  refine wh_y 3 rfl (by kernel_rfl) (by kernel_rfl) (by kernel_rfl) (fun _ _ _ h => h) rfl HF rfl rfl (fun _ HS => (yl_fieldAddr (j := 1) rfl (HF.ev rfl) (by kernel_rfl))) HS.out ?_; clear HF; clear a; intro a HF
  refine wh_y 4 rfl (by kernel_rfl) (by kernel_rfl) (by kernel_rfl) (fun _ _ _ h => h) rfl HF rfl rfl (fun _ HS => (yl_load (v := .slice p.a1 p.d.fWaits.length p.c1) rfl (HF.ev rfl) (((HS.box 0 rfl).cell 1).trans rfl) (by kernel_rfl))) HS.out ?_; clear HF; clear a; intro a HF
  refine wh_y 6 rfl (by kernel_rfl) (by kernel_rfl) (by kernel_rfl) (fun _ _ _ h => h) rfl HF rfl rfl (fun _ HS => (yl_fieldAddr (j := 2) rfl (HF.ev rfl) (by kernel_rfl))) HS.out ?_; clear HF; clear a; intro a HF
  refine wh_y 7 rfl (by kernel_rfl) (by kernel_rfl) (by kernel_rfl) (fun _ _ _ h => h) rfl HF rfl rfl (fun _ HS => (yl_load (v := .bool p.d.fGone) rfl (HF.ev rfl) (((HS.box 0 rfl).cell 2).trans rfl) (by kernel_rfl))) HS.out ?_; clear HF; clear a; intro a HF
  refine wh_one 2 (by kernel_rfl) ?_
  refine wo_call rfl rfl HF rfl (enter_of Try.func120 (by kernel_rfl) rfl) (args := #[.slice p.a0 p.d.fCells.length p.c0]) rfl (cloneS_any _ _ p.d.fCells _ (by have := hf.c; omega) (HP.out.rc.below HS2.out.bel)) rfl rfl ?_
  rintro _ w5 ⟨⟨ao3, cp4, rfl, ho⟩, hb⟩
  refine ⟨_, rfl, ?_⟩; replace HS := Bx.mk (HS.out.later hb); replace HS2 := Bx.mk (HS2.out.add (St.ofRow ho hb)); clear ho hb HF; clear a; intro a HF; refine ⟨HS.out, ?_⟩
  replace HS2 : Bx (St w0 ([rowA encS 1 9 (.slice ao3 p.d.fCells.length cp4) p.d.fCells, boxA b2 3 44 (.agg #[.slice none 0 0, .slice none 0 0, .bool false]), boxA b1 3 44 (.agg #[.slice p.a0 p.d.fCells.length p.c0, .slice p.a1 p.d.fWaits.length p.c1, .bool p.d.fGone])]) _) := ⟨HS2.out⟩
  refine wh_one 5 (by kernel_rfl) ?_
  refine wo_call rfl rfl HF rfl (enter_of Try.func121 (by kernel_rfl) rfl) (args := #[.slice p.a1 p.d.fWaits.length p.c1]) rfl (cloneW_any _ _ p.d.fWaits _ (by have := hf.w; omega) (HP.out.rw.below HS2.out.bel)) rfl rfl ?_
  rintro _ w7 ⟨⟨ao6, cp7, rfl, ho⟩, hb⟩
  refine ⟨_, rfl, ?_⟩; replace HS := Bx.mk (HS.out.later hb); replace HS2 := Bx.mk (HS2.out.add (St.ofRow ho hb)); clear ho hb HF; clear a; intro a HF; refine ⟨HS.out, ?_⟩
  replace HS2 : Bx (St w0 ([rowA WaitD.cells 2 144 (.slice ao6 p.d.fWaits.length cp7) p.d.fWaits, rowA encS 1 9 (.slice ao3 p.d.fCells.length cp4) p.d.fCells, boxA b2 3 44 (.agg #[.slice none 0 0, .slice none 0 0, .bool false]), boxA b1 3 44 (.agg #[.slice p.a0 p.d.fCells.length p.c0, .slice p.a1 p.d.fWaits.length p.c1, .bool p.d.fGone])]) _) := ⟨HS2.out⟩
  refine wh_y 8 rfl (by kernel_rfl) (by kernel_rfl) (by kernel_rfl) (fun _ _ _ h => h) rfl HF rfl rfl (fun _ HS => (yl_build HF rfl (ps := [(0, .slice ao3 p.d.fCells.length cp4), (1, .slice ao6 p.d.fWaits.length cp7), (2, .bool p.d.fGone)]) rfl (cs := #[.slice ao3 p.d.fCells.length cp4, .slice ao6 p.d.fWaits.length cp7, .bool p.d.fGone]) (by kernel_rfl))) HS.out ?_; clear HF; clear a; intro a HF
  refine wh_one 9 (by kernel_rfl) ?_
  refine wo_storeBox rfl rfl rfl rfl (HF.ev rfl) (HF.ev rfl) HS2.out 2 rfl (cells_lit [.slice ao3 p.d.fCells.length cp4, .slice ao6 p.d.fWaits.length cp7, .bool p.d.fGone] rfl rfl) (by kernel_rfl) ?_
  clear HS HS2; intro w8 HS2; replace HS2 : Bx (St w0 ([rowA WaitD.cells 2 144 (.slice ao6 p.d.fWaits.length cp7) p.d.fWaits, rowA encS 1 9 (.slice ao3 p.d.fCells.length cp4) p.d.fCells, boxA b2 3 44 (.agg #[.slice ao3 p.d.fCells.length cp4, .slice ao6 p.d.fWaits.length cp7, .bool p.d.fGone]), boxA b1 3 44 (.agg #[.slice p.a0 p.d.fCells.length p.c0, .slice p.a1 p.d.fWaits.length p.c1, .bool p.d.fGone])]) _) := ⟨HS2⟩
  have HS : Bx (St w0 ([boxA b1 3 44 (.agg #[.slice p.a0 p.d.fCells.length p.c0, .slice p.a1 p.d.fWaits.length p.c1, .bool p.d.fGone])]) _) := ⟨(((HS2.out.erase 2).erase 1).erase 0)⟩; refine ⟨HS.out, ?_⟩
  refine wh_done (by kernel_rfl) ?_
  replace HS := HS2; clear HS2
  refine ex_then ?_
  refine wp_ret ?_
  refine bp_ret1 HF Try.results49 (HF.resBox rfl (HS.out.box 2 rfl) (by kernel_rfl)) ?_
  replace HS : Bx (St w0 ([rowA encS 1 9 (.slice ao3 p.d.fCells.length cp4) p.d.fCells, rowA WaitD.cells 2 144 (.slice ao6 p.d.fWaits.length cp7) p.d.fWaits, boxA b2 3 44 (.agg #[.slice ao3 p.d.fCells.length cp4, .slice ao6 p.d.fWaits.length cp7, .bool p.d.fGone]), boxA b1 3 44 (.agg #[.slice p.a0 p.d.fCells.length p.c0, .slice p.a1 p.d.fWaits.length p.c1, .bool p.d.fGone])]) _) := ⟨((HS.out).pick 0 rfl).pick 1 rfl⟩
  exact ⟨⟨ao3, cp4, ao6, cp7, p.d⟩, rfl, rfl, (St.join (r := [_, _]) (s := [])).1 (((HS.out.erase 3).erase 2))⟩

def DiskD.putD (d : DiskD) (n : Int) (t : ByteArray) : DiskD := { d with fWaits := d.fWaits ++ [(⟨n, t⟩ : WaitD)] }
theorem ok_waits {d : DiskD} (h : d.ok = true) : d.fCells.length = 64 ∧ d.fWaits.length ≤ 120 := by
  unfold DiskD.ok at h
  simp only [Bool.and_eq_true, decide_eq_true_eq] at h
  exact ⟨h.1, h.2.1⟩

set_option maxHeartbeats 1000000 in
set_option maxRecDepth 100000 in
theorem diskWrite_any (p : HD) (n : Int) (t : ByteArray) (w0 : World) (hr : p.reads w0) (hf : p.d.fits) (hok : p.d.ok = true) (ht : t.size ≤ 9223372036854775806) : Calls Try.prog 50 #[.agg #[.slice p.a0 p.d.fCells.length p.c0, .slice p.a1 p.d.fWaits.length p.c1, .bool p.d.fGone], .int .i64 n, .string t] w0 fun e w' => (p.d.can n t = false ∧ ∃ q : HD, e = .returned (.tuple #[.agg #[.slice q.a0 q.d.fCells.length q.c0, .slice q.a1 q.d.fWaits.length q.c1, .bool q.d.fGone], .bool false]) ∧ St w0 [q.asr] w') ∨ (p.d.can n t = true ∧ ∃ q : HD, q.d = p.d.putD n t ∧ e = .returned (.tuple #[.agg #[.slice q.a0 q.d.fCells.length q.c0, .slice q.a1 q.d.fWaits.length q.c1, .bool q.d.fGone], .bool true]) ∧ St w0 [q.asr] w') := by
  have HP := Bx.mk hr
  clear hr
  have hok2 := ok_waits hok
  have HS := Bx.mk (St.start w0)
  refine wc_enter Try.func50 rfl Try.ntmps50 [(0, .agg #[.slice p.a0 p.d.fCells.length p.c0, .slice p.a1 p.d.fWaits.length p.c1, .bool p.d.fGone]), (1, .int .i64 n), (2, .string t)] ⟨rfl, rfl, rfl, trivial⟩ rfl ?_; intro a HF
  refine wp_seq ?_
  refine wp_region_lit ?_
  refine wl_box rfl HF rfl (HF.ev rfl) (Z := [.slice p.a0 p.d.fCells.length p.c0, .slice p.a1 p.d.fWaits.length p.c1, .bool p.d.fGone]) rfl rfl rfl rfl HS.out ?_; clear HF HS; clear a; intro a w1 b1 HF HS; replace HS := Bx.mk HS
  refine wl_alloc rfl HF rfl rfl rfl (Z := [.slice none 0 0, .slice none 0 0, .bool false]) (by kernel_rfl) rfl HS.out ?_; clear HF HS; clear a; intro a w2 b2 HF HS; replace HS := Bx.mk HS
  refine wl_y rfl HF rfl rfl (yl_assign rfl (HF.ev rfl)) ?_; clear HF; clear a; intro a HF
  refine wpList_nil ?_
  refine ex_then ?_
  refine wp_seq ?_
  refine wp_seq ?_
  refine wp_region_lit ?_
  refine wl_y rfl HF rfl rfl (yl_loadR (cs := [.slice p.a0 p.d.fCells.length p.c0, .slice p.a1 p.d.fWaits.length p.c1, .bool p.d.fGone]) rfl (HF.ev rfl) ((HS.out.box 1 rfl).sub 0 3) (by kernel_rfl)) ?_; clear HF; clear a; intro a HF
  refine wl_callB rfl HF rfl (enter_of Try.func68 (by kernel_rfl) rfl) (args := #[.agg #[.slice p.a0 p.d.fCells.length p.c0, .slice p.a1 p.d.fWaits.length p.c1, .bool p.d.fGone]]) rfl (v := .bool true) ((by have := implDiskOk_any p.a0 p.c0 p.a1 p.c1 p.d _ hf.c hf.w hf.cz hf.wz (HP.out.below HS.out.bel).rc (HP.out.below HS.out.bel).rw; rw [hok] at this; exact this)) rfl rfl HS.out ?_; clear HF HS; clear a; intro w3 a HS HF; replace HS := Bx.mk HS
  refine wl_y rfl HF rfl rfl (yl_not rfl (HF.ev rfl)) ?_; clear HF; clear a; intro a HF
  refine wpList_nil ?_
  refine ex_then ?_
  refine wc_false HF rfl ?_
  refine wp_skip ?_
  refine ex_then ?_
  refine wp_seq ?_
  refine wp_region_lit ?_
  refine wl_y rfl HF rfl rfl (yl_loadR (cs := [.slice p.a0 p.d.fCells.length p.c0, .slice p.a1 p.d.fWaits.length p.c1, .bool p.d.fGone]) rfl (HF.ev rfl) ((HS.out.box 1 rfl).sub 0 3) (by kernel_rfl)) ?_; clear HF; clear a; intro a HF
  refine wl_call rfl HF rfl (enter_of Try.func49 (by kernel_rfl) rfl) (args := #[.agg #[.slice p.a0 p.d.fCells.length p.c0, .slice p.a1 p.d.fWaits.length p.c1, .bool p.d.fGone]]) rfl (clone_any p _ (HP.out.below HS.out.bel) hf) rfl rfl ?_
  rintro _ w4 ⟨⟨qa3, qc3, qb3, qe3, qd⟩, hqd, rfl, hs⟩; obtain rfl : qd = p.d := hqd; refine ⟨_, rfl, ?_⟩
  replace HS := Bx.mk (St.join.2 (HS.out.add hs)); clear hs HF; clear a; intro a HF
  replace HS : Bx (St w0 ([rowA encS 1 9 (.slice qa3 p.d.fCells.length qc3) p.d.fCells, rowA WaitD.cells 2 144 (.slice qb3 p.d.fWaits.length qe3) p.d.fWaits, boxA b2 3 44 (.agg #[.slice none 0 0, .slice none 0 0, .bool false]), boxA b1 3 44 (.agg #[.slice p.a0 p.d.fCells.length p.c0, .slice p.a1 p.d.fWaits.length p.c1, .bool p.d.fGone])]) _) := ⟨HS.out⟩
  refine wl_alloc rfl HF rfl rfl rfl (Z := [.slice none 0 0, .slice none 0 0, .bool false]) (by kernel_rfl) rfl HS.out ?_; clear HF HS; clear a; intro a w5 b4 HF HS; replace HS := Bx.mk HS
  refine wl_storeBox rfl HF rfl rfl (HF.ev rfl) (HF.ev rfl) HS.out 0 rfl (cells_lit [.slice qa3 p.d.fCells.length qc3, .slice qb3 p.d.fWaits.length qe3, .bool p.d.fGone] rfl rfl) (by kernel_rfl) ?_; clear HS; intro w6 HS; replace HS := Bx.mk HS
  have HS : Bx (St w0 ([boxA b4 3 44 (.agg #[.slice qa3 p.d.fCells.length qc3, .slice qb3 p.d.fWaits.length qe3, .bool p.d.fGone]), rowA encS 1 9 (.slice qa3 p.d.fCells.length qc3) p.d.fCells, rowA WaitD.cells 2 144 (.slice qb3 p.d.fWaits.length qe3) p.d.fWaits, boxA b2 3 44 (.agg #[.slice none 0 0, .slice none 0 0, .bool false]), boxA b1 3 44 (.agg #[.slice p.a0 p.d.fCells.length p.c0, .slice p.a1 p.d.fWaits.length p.c1, .bool p.d.fGone])]) _) := HS
  refine wpList_nil ?_
  refine ex_then ?_
  refine wp_seq ?_
  refine wp_seq ?_
  refine wp_region_lit ?_
  refine wl_y rfl HF rfl rfl (yl_fieldAddr (j := 2) rfl (HF.ev rfl) (by kernel_rfl)) ?_; clear HF; clear a; intro a HF
  refine wl_y rfl HF rfl rfl (yl_load (v := .bool p.d.fGone) rfl (HF.ev rfl) (((HS.out.box 4 rfl).cell 2).trans rfl) (by kernel_rfl)) ?_; clear HF; clear a; intro a HF
  refine wl_y rfl HF rfl rfl (yl_move rfl (HF.ev rfl)) ?_; clear HF; clear a; intro a HF
  refine HF.cases 17 rfl (fun cc1 HF1 => ?_) (fun cc1 HF1 => ?_)
  · clear HF; have HF := HF1; clear HF1
    have q1 : p.d.fGone = true := cc1
    refine wl_skip HF rfl rfl rfl rfl rfl rfl ?_; clear HF; clear a; intro a HF
    refine wl_skip HF rfl rfl rfl rfl rfl rfl ?_; clear HF; clear a; intro a HF
    refine wl_skip HF rfl rfl rfl rfl rfl rfl ?_; clear HF; clear a; intro a HF
    refine wl_y rfl HF rfl rfl (yl_pick_t rfl (HF.ev rfl) (HF.ev rfl)) ?_; clear HF; clear a; intro a HF
    refine wl_y rfl HF rfl rfl (yl_move rfl (HF.ev rfl)) ?_; clear HF; clear a; intro a HF
    refine wl_skip HF rfl rfl rfl rfl rfl rfl ?_; clear HF; clear a; intro a HF
    refine wl_skip HF rfl rfl rfl rfl rfl rfl ?_; clear HF; clear a; intro a HF
    refine wl_skip HF rfl rfl rfl rfl rfl rfl ?_; clear HF; clear a; intro a HF
    refine wl_y rfl HF rfl rfl (yl_pick_t rfl (HF.ev rfl) (HF.ev rfl)) ?_; clear HF; clear a; intro a HF
    refine wl_y rfl HF rfl rfl (yl_move rfl (HF.ev rfl)) ?_; clear HF; clear a; intro a HF
    refine wl_skip HF rfl rfl rfl rfl rfl rfl ?_; clear HF; clear a; intro a HF
    refine wl_skip HF rfl rfl rfl rfl rfl rfl ?_; clear HF; clear a; intro a HF
    refine wl_skip HF rfl rfl rfl rfl rfl rfl ?_; clear HF; clear a; intro a HF
    refine wl_skip HF rfl rfl rfl rfl rfl rfl ?_; clear HF; clear a; intro a HF
    refine wl_y rfl HF rfl rfl (yl_pick_t rfl (HF.ev rfl) (HF.ev rfl)) ?_; clear HF; clear a; intro a HF
    refine wpList_nil ?_
    refine ex_then ?_
    refine wc_true HF rfl ?_
    refine wp_seq ?_
    refine wp_region_lit ?_
    refine wl_y rfl HF rfl rfl (yl_loadR (cs := [.slice qa3 p.d.fCells.length qc3, .slice qb3 p.d.fWaits.length qe3, .bool p.d.fGone]) rfl (HF.ev rfl) ((HS.out.box 0 rfl).sub 0 3) (by kernel_rfl)) ?_; clear HF; clear a; intro a HF
    refine wl_storeBox rfl HF rfl rfl (HF.ev rfl) (HF.ev rfl) HS.out 3 rfl (cells_lit [.slice qa3 p.d.fCells.length qc3, .slice qb3 p.d.fWaits.length qe3, .bool p.d.fGone] rfl rfl) (by kernel_rfl) ?_; clear HS; intro w7 HS; replace HS := Bx.mk HS
    have HS : Bx (St w0 ([boxA b4 3 44 (.agg #[.slice qa3 p.d.fCells.length qc3, .slice qb3 p.d.fWaits.length qe3, .bool p.d.fGone]), rowA encS 1 9 (.slice qa3 p.d.fCells.length qc3) p.d.fCells, rowA WaitD.cells 2 144 (.slice qb3 p.d.fWaits.length qe3) p.d.fWaits, boxA b2 3 44 (.agg #[.slice qa3 p.d.fCells.length qc3, .slice qb3 p.d.fWaits.length qe3, .bool p.d.fGone]), boxA b1 3 44 (.agg #[.slice p.a0 p.d.fCells.length p.c0, .slice p.a1 p.d.fWaits.length p.c1, .bool p.d.fGone])]) _) := HS
    refine wl_y rfl HF rfl rfl (yl_assign rfl (HF.ev rfl)) ?_; clear HF; clear a; intro a HF
    refine wpList_nil ?_
    refine ex_then ?_
    refine wp_ret ?_
    refine ex_then_ret ?_
    refine bp_ret2 HF Try.results50 (HF.resBox rfl (HS.out.box 3 rfl) (by kernel_rfl)) (HF.res rfl) ?_
    replace HS : Bx (St w0 ([rowA encS 1 9 (.slice qa3 p.d.fCells.length qc3) p.d.fCells, rowA WaitD.cells 2 144 (.slice qb3 p.d.fWaits.length qe3) p.d.fWaits, boxA b4 3 44 (.agg #[.slice qa3 p.d.fCells.length qc3, .slice qb3 p.d.fWaits.length qe3, .bool p.d.fGone]), boxA b2 3 44 (.agg #[.slice qa3 p.d.fCells.length qc3, .slice qb3 p.d.fWaits.length qe3, .bool p.d.fGone]), boxA b1 3 44 (.agg #[.slice p.a0 p.d.fCells.length p.c0, .slice p.a1 p.d.fWaits.length p.c1, .bool p.d.fGone])]) _) := ⟨((HS.out).pick 2 rfl).pick 2 rfl⟩
    exact .inl ⟨by unfold DiskD.can; rw [q1]; rfl, ⟨qa3, qc3, qb3, qe3, p.d⟩, rfl, (St.join (r := [_, _]) (s := [])).1 ((((HS.out.erase 4).erase 3).erase 2))⟩
  · clear HF; have HF := HF1; clear HF1
    have q1 : p.d.fGone = false := cc1
    refine wl_yg HF rfl rfl rfl rfl rfl (yl_move rfl (HF.ev rfl)) ?_; clear HF; clear a; intro a HF
    refine wl_callBg HF rfl rfl rfl rfl (enter_of Try.func69 (by kernel_rfl) rfl) (args := #[.int .i64 n]) rfl (v := .bool (inB n 0 63)) (isCell_any n _) rfl rfl HS.out ?_; clear HF HS; clear a; intro w8 a HS HF; replace HS := Bx.mk HS
    refine wl_yg HF rfl rfl rfl rfl rfl (yl_not rfl (HF.ev rfl)) ?_; clear HF; clear a; intro a HF
    refine wl_y rfl HF rfl rfl (yl_pick_f rfl (HF.ev rfl) (HF.ev rfl)) ?_; clear HF; clear a; intro a HF
    refine wl_y rfl HF rfl rfl (yl_move rfl (HF.ev rfl)) ?_; clear HF; clear a; intro a HF
    refine HF.cases 22 rfl (fun cc2 HF1 => ?_) (fun cc2 HF1 => ?_)
    · clear HF; have HF := HF1; clear HF1
      have q2 : inB n 0 63 = false := by simpa using cc2
      refine wl_skip HF rfl rfl rfl rfl rfl rfl ?_; clear HF; clear a; intro a HF
      refine wl_skip HF rfl rfl rfl rfl rfl rfl ?_; clear HF; clear a; intro a HF
      refine wl_skip HF rfl rfl rfl rfl rfl rfl ?_; clear HF; clear a; intro a HF
      refine wl_y rfl HF rfl rfl (yl_pick_t rfl (HF.ev rfl) (HF.ev rfl)) ?_; clear HF; clear a; intro a HF
      refine wl_y rfl HF rfl rfl (yl_move rfl (HF.ev rfl)) ?_; clear HF; clear a; intro a HF
      refine wl_skip HF rfl rfl rfl rfl rfl rfl ?_; clear HF; clear a; intro a HF
      refine wl_skip HF rfl rfl rfl rfl rfl rfl ?_; clear HF; clear a; intro a HF
      refine wl_skip HF rfl rfl rfl rfl rfl rfl ?_; clear HF; clear a; intro a HF
      refine wl_skip HF rfl rfl rfl rfl rfl rfl ?_; clear HF; clear a; intro a HF
      refine wl_y rfl HF rfl rfl (yl_pick_t rfl (HF.ev rfl) (HF.ev rfl)) ?_; clear HF; clear a; intro a HF
      refine wpList_nil ?_
      refine ex_then ?_
      refine wc_true HF rfl ?_
      refine wp_seq ?_
      refine wp_region_lit ?_
      refine wl_y rfl HF rfl rfl (yl_loadR (cs := [.slice qa3 p.d.fCells.length qc3, .slice qb3 p.d.fWaits.length qe3, .bool p.d.fGone]) rfl (HF.ev rfl) ((HS.out.box 0 rfl).sub 0 3) (by kernel_rfl)) ?_; clear HF; clear a; intro a HF
      refine wl_storeBox rfl HF rfl rfl (HF.ev rfl) (HF.ev rfl) HS.out 3 rfl (cells_lit [.slice qa3 p.d.fCells.length qc3, .slice qb3 p.d.fWaits.length qe3, .bool p.d.fGone] rfl rfl) (by kernel_rfl) ?_; clear HS; intro w9 HS; replace HS := Bx.mk HS
      have HS : Bx (St w0 ([boxA b4 3 44 (.agg #[.slice qa3 p.d.fCells.length qc3, .slice qb3 p.d.fWaits.length qe3, .bool p.d.fGone]), rowA encS 1 9 (.slice qa3 p.d.fCells.length qc3) p.d.fCells, rowA WaitD.cells 2 144 (.slice qb3 p.d.fWaits.length qe3) p.d.fWaits, boxA b2 3 44 (.agg #[.slice qa3 p.d.fCells.length qc3, .slice qb3 p.d.fWaits.length qe3, .bool p.d.fGone]), boxA b1 3 44 (.agg #[.slice p.a0 p.d.fCells.length p.c0, .slice p.a1 p.d.fWaits.length p.c1, .bool p.d.fGone])]) _) := HS
      refine wl_y rfl HF rfl rfl (yl_assign rfl (HF.ev rfl)) ?_; clear HF; clear a; intro a HF
      refine wpList_nil ?_
      refine ex_then ?_
      refine wp_ret ?_
      refine ex_then_ret ?_
      refine bp_ret2 HF Try.results50 (HF.resBox rfl (HS.out.box 3 rfl) (by kernel_rfl)) (HF.res rfl) ?_
      replace HS : Bx (St w0 ([rowA encS 1 9 (.slice qa3 p.d.fCells.length qc3) p.d.fCells, rowA WaitD.cells 2 144 (.slice qb3 p.d.fWaits.length qe3) p.d.fWaits, boxA b4 3 44 (.agg #[.slice qa3 p.d.fCells.length qc3, .slice qb3 p.d.fWaits.length qe3, .bool p.d.fGone]), boxA b2 3 44 (.agg #[.slice qa3 p.d.fCells.length qc3, .slice qb3 p.d.fWaits.length qe3, .bool p.d.fGone]), boxA b1 3 44 (.agg #[.slice p.a0 p.d.fCells.length p.c0, .slice p.a1 p.d.fWaits.length p.c1, .bool p.d.fGone])]) _) := ⟨((HS.out).pick 2 rfl).pick 2 rfl⟩
      exact .inl ⟨by unfold DiskD.can; rw [q1, q2]; rfl, ⟨qa3, qc3, qb3, qe3, p.d⟩, rfl, (St.join (r := [_, _]) (s := [])).1 ((((HS.out.erase 4).erase 3).erase 2))⟩
    · clear HF; have HF := HF1; clear HF1
      have q2 : inB n 0 63 = true := by simpa using cc2
      refine wl_yg HF rfl rfl rfl rfl rfl (yl_move rfl (HF.ev rfl)) ?_; clear HF; clear a; intro a HF
      refine wl_yg HF rfl rfl rfl rfl rfl (yl_lenS rfl (HF.ev rfl) (by kernel_rfl)) ?_; clear HF; clear a; intro a HF
      refine wl_yg HF rfl rfl rfl rfl rfl (yl_gtrI rfl (HF.ev rfl) (HF.ev rfl)) ?_; clear HF; clear a; intro a HF
      refine wl_y rfl HF rfl rfl (yl_pick_f rfl (HF.ev rfl) (HF.ev rfl)) ?_; clear HF; clear a; intro a HF
      refine wl_y rfl HF rfl rfl (yl_move rfl (HF.ev rfl)) ?_; clear HF; clear a; intro a HF
      refine HF.cases 27 rfl (fun cc3 HF1 => ?_) (fun cc3 HF1 => ?_)
      · clear HF; have HF := HF1; clear HF1
        have q3 : decide (t.size ≤ 200) = false := decide_eq_false (by have := of_decide_eq_true cc3; omega)
        refine wl_skip HF rfl rfl rfl rfl rfl rfl ?_; clear HF; clear a; intro a HF
        refine wl_skip HF rfl rfl rfl rfl rfl rfl ?_; clear HF; clear a; intro a HF
        refine wl_skip HF rfl rfl rfl rfl rfl rfl ?_; clear HF; clear a; intro a HF
        refine wl_skip HF rfl rfl rfl rfl rfl rfl ?_; clear HF; clear a; intro a HF
        refine wl_y rfl HF rfl rfl (yl_pick_t rfl (HF.ev rfl) (HF.ev rfl)) ?_; clear HF; clear a; intro a HF
        refine wpList_nil ?_
        refine ex_then ?_
        refine wc_true HF rfl ?_
        refine wp_seq ?_
        refine wp_region_lit ?_
        refine wl_y rfl HF rfl rfl (yl_loadR (cs := [.slice qa3 p.d.fCells.length qc3, .slice qb3 p.d.fWaits.length qe3, .bool p.d.fGone]) rfl (HF.ev rfl) ((HS.out.box 0 rfl).sub 0 3) (by kernel_rfl)) ?_; clear HF; clear a; intro a HF
        refine wl_storeBox rfl HF rfl rfl (HF.ev rfl) (HF.ev rfl) HS.out 3 rfl (cells_lit [.slice qa3 p.d.fCells.length qc3, .slice qb3 p.d.fWaits.length qe3, .bool p.d.fGone] rfl rfl) (by kernel_rfl) ?_; clear HS; intro w10 HS; replace HS := Bx.mk HS
        have HS : Bx (St w0 ([boxA b4 3 44 (.agg #[.slice qa3 p.d.fCells.length qc3, .slice qb3 p.d.fWaits.length qe3, .bool p.d.fGone]), rowA encS 1 9 (.slice qa3 p.d.fCells.length qc3) p.d.fCells, rowA WaitD.cells 2 144 (.slice qb3 p.d.fWaits.length qe3) p.d.fWaits, boxA b2 3 44 (.agg #[.slice qa3 p.d.fCells.length qc3, .slice qb3 p.d.fWaits.length qe3, .bool p.d.fGone]), boxA b1 3 44 (.agg #[.slice p.a0 p.d.fCells.length p.c0, .slice p.a1 p.d.fWaits.length p.c1, .bool p.d.fGone])]) _) := HS
        refine wl_y rfl HF rfl rfl (yl_assign rfl (HF.ev rfl)) ?_; clear HF; clear a; intro a HF
        refine wpList_nil ?_
        refine ex_then ?_
        refine wp_ret ?_
        refine ex_then_ret ?_
        refine bp_ret2 HF Try.results50 (HF.resBox rfl (HS.out.box 3 rfl) (by kernel_rfl)) (HF.res rfl) ?_
        replace HS : Bx (St w0 ([rowA encS 1 9 (.slice qa3 p.d.fCells.length qc3) p.d.fCells, rowA WaitD.cells 2 144 (.slice qb3 p.d.fWaits.length qe3) p.d.fWaits, boxA b4 3 44 (.agg #[.slice qa3 p.d.fCells.length qc3, .slice qb3 p.d.fWaits.length qe3, .bool p.d.fGone]), boxA b2 3 44 (.agg #[.slice qa3 p.d.fCells.length qc3, .slice qb3 p.d.fWaits.length qe3, .bool p.d.fGone]), boxA b1 3 44 (.agg #[.slice p.a0 p.d.fCells.length p.c0, .slice p.a1 p.d.fWaits.length p.c1, .bool p.d.fGone])]) _) := ⟨((HS.out).pick 2 rfl).pick 2 rfl⟩
        exact .inl ⟨by unfold DiskD.can; rw [q1, q2, q3]; rfl, ⟨qa3, qc3, qb3, qe3, p.d⟩, rfl, (St.join (r := [_, _]) (s := [])).1 ((((HS.out.erase 4).erase 3).erase 2))⟩
      · clear HF; have HF := HF1; clear HF1
        have q3 : decide (t.size ≤ 200) = true := decide_eq_true (by have := of_decide_eq_false cc3; omega)
        refine wl_yg HF rfl rfl rfl rfl rfl (yl_fieldAddr (j := 1) rfl (HF.ev rfl) (by kernel_rfl)) ?_; clear HF; clear a; intro a HF
        refine wl_yg HF rfl rfl rfl rfl rfl (yl_load (v := .slice p.a1 p.d.fWaits.length p.c1) rfl (HF.ev rfl) (((HS.out.box 4 rfl).cell 1).trans rfl) (by kernel_rfl)) ?_; clear HF; clear a; intro a HF
        refine wl_yg HF rfl rfl rfl rfl rfl (yl_lenL (e := 144) (size := 2) rfl (HF.ev rfl) (by kernel_rfl)) ?_; clear HF; clear a; intro a HF
        refine wl_yg HF rfl rfl rfl rfl rfl (yl_eqlI rfl (HF.ev rfl) (HF.ev rfl)) ?_; clear HF; clear a; intro a HF
        refine wl_y rfl HF rfl rfl (yl_pick_f rfl (HF.ev rfl) (HF.ev rfl)) ?_; clear HF; clear a; intro a HF
        refine wpList_nil ?_
        refine ex_then ?_
        refine HF.cases 32 rfl (fun cc4 HF1 => ?_) (fun cc4 HF1 => ?_)
        · clear HF; have HF := HF1; clear HF1
          have q4 : decide (p.d.fWaits.length < 120) = false := decide_eq_false (by have := eq_of_beq cc4; omega)
          refine wc_true HF rfl ?_
          refine wp_seq ?_
          refine wp_region_lit ?_
          refine wl_y rfl HF rfl rfl (yl_loadR (cs := [.slice qa3 p.d.fCells.length qc3, .slice qb3 p.d.fWaits.length qe3, .bool p.d.fGone]) rfl (HF.ev rfl) ((HS.out.box 0 rfl).sub 0 3) (by kernel_rfl)) ?_; clear HF; clear a; intro a HF
          refine wl_storeBox rfl HF rfl rfl (HF.ev rfl) (HF.ev rfl) HS.out 3 rfl (cells_lit [.slice qa3 p.d.fCells.length qc3, .slice qb3 p.d.fWaits.length qe3, .bool p.d.fGone] rfl rfl) (by kernel_rfl) ?_; clear HS; intro w11 HS; replace HS := Bx.mk HS
          have HS : Bx (St w0 ([boxA b4 3 44 (.agg #[.slice qa3 p.d.fCells.length qc3, .slice qb3 p.d.fWaits.length qe3, .bool p.d.fGone]), rowA encS 1 9 (.slice qa3 p.d.fCells.length qc3) p.d.fCells, rowA WaitD.cells 2 144 (.slice qb3 p.d.fWaits.length qe3) p.d.fWaits, boxA b2 3 44 (.agg #[.slice qa3 p.d.fCells.length qc3, .slice qb3 p.d.fWaits.length qe3, .bool p.d.fGone]), boxA b1 3 44 (.agg #[.slice p.a0 p.d.fCells.length p.c0, .slice p.a1 p.d.fWaits.length p.c1, .bool p.d.fGone])]) _) := HS
          refine wl_y rfl HF rfl rfl (yl_assign rfl (HF.ev rfl)) ?_; clear HF; clear a; intro a HF
          refine wpList_nil ?_
          refine ex_then ?_
          refine wp_ret ?_
          refine ex_then_ret ?_
          refine bp_ret2 HF Try.results50 (HF.resBox rfl (HS.out.box 3 rfl) (by kernel_rfl)) (HF.res rfl) ?_
          replace HS : Bx (St w0 ([rowA encS 1 9 (.slice qa3 p.d.fCells.length qc3) p.d.fCells, rowA WaitD.cells 2 144 (.slice qb3 p.d.fWaits.length qe3) p.d.fWaits, boxA b4 3 44 (.agg #[.slice qa3 p.d.fCells.length qc3, .slice qb3 p.d.fWaits.length qe3, .bool p.d.fGone]), boxA b2 3 44 (.agg #[.slice qa3 p.d.fCells.length qc3, .slice qb3 p.d.fWaits.length qe3, .bool p.d.fGone]), boxA b1 3 44 (.agg #[.slice p.a0 p.d.fCells.length p.c0, .slice p.a1 p.d.fWaits.length p.c1, .bool p.d.fGone])]) _) := ⟨((HS.out).pick 2 rfl).pick 2 rfl⟩
          exact .inl ⟨by unfold DiskD.can; rw [q1, q2, q3, q4]; rfl, ⟨qa3, qc3, qb3, qe3, p.d⟩, rfl, (St.join (r := [_, _]) (s := [])).1 ((((HS.out.erase 4).erase 3).erase 2))⟩
        · clear HF; have HF := HF1; clear HF1
          have q4 : decide (p.d.fWaits.length < 120) = true := decide_eq_true (by have := ne_of_beq_false cc4; omega)
          refine wc_false HF rfl ?_
          refine wp_skip ?_
          refine ex_then ?_
          refine wp_seq ?_
          refine wp_region_lit ?_
          refine wl_y rfl HF rfl rfl (yl_fieldAddr (j := 1) rfl (HF.ev rfl) (by kernel_rfl)) ?_; clear HF; clear a; intro a HF
          refine wl_y rfl HF rfl rfl (yl_load (v := .slice qb3 p.d.fWaits.length qe3) rfl (HF.ev rfl) (((HS.out.box 0 rfl).cell 1).trans rfl) (by kernel_rfl)) ?_; clear HF; clear a; intro a HF
          refine wl_y rfl HF rfl rfl (yl_move rfl (HF.ev rfl)) ?_; clear HF; clear a; intro a HF
          refine wl_y rfl HF rfl rfl (yl_move rfl (HF.ev rfl)) ?_; clear HF; clear a; intro a HF
          refine wl_y rfl HF rfl rfl (yl_build HF rfl (ps := [(0, .int .i64 n), (1, .string t)]) rfl (cs := #[.int .i64 n, .string t]) (by kernel_rfl)) ?_; clear HF; clear a; intro a HF
          refine wl_buildS (enc := WaitD.cells) (e := 144) (size := 2) rfl HF rfl rfl rfl (ps := [(0, .agg #[.int .i64 n, .string t])]) rfl (cells := [.int .i64 n, .string t]) (by kernel_rfl) [(⟨n, t⟩ : WaitD)] rfl rfl (by unfold maxLen; omega) rfl HS.out ?_; clear HF HS; clear a; intro b5 a w12 HF HS; replace HS := Bx.mk HS
          refine wl_appL rfl HF rfl rfl rfl (HF.ev rfl) (HF.ev rfl) elemW WaitD.cells_len HS.out 3 (xs := p.d.fWaits) rfl (ys := [(⟨n, t⟩ : WaitD)]) (St.rdN HS.out WaitD.cells_len 0 rfl) (cells_one_W _) (by unfold maxLen; simp only [List.length_cons, List.length_nil]; omega) (by simp only [List.length_cons, List.length_nil]; omega) ?_; clear HF HS; clear a; intro ao6 cp7 w13 a HF HS; replace HS := Bx.mk HS
          replace HS : Bx (St w0 ([rowA WaitD.cells 2 144 (.slice (some ⟨b5, 0, none⟩) 1 1) ([(⟨n, t⟩ : WaitD)]), boxA b4 3 44 (.agg #[.slice qa3 p.d.fCells.length qc3, .slice qb3 p.d.fWaits.length qe3, .bool p.d.fGone]), rowA encS 1 9 (.slice qa3 p.d.fCells.length qc3) p.d.fCells, rowA WaitD.cells 2 144 (.slice ao6 (p.d.fWaits.length + ([(⟨n, t⟩ : WaitD)]).length) cp7) (p.d.fWaits ++ ([(⟨n, t⟩ : WaitD)])), boxA b2 3 44 (.agg #[.slice none 0 0, .slice none 0 0, .bool false]), boxA b1 3 44 (.agg #[.slice p.a0 p.d.fCells.length p.c0, .slice p.a1 p.d.fWaits.length p.c1, .bool p.d.fGone])]) _) := ⟨HS.out⟩
          refine wl_y rfl HF rfl rfl (yl_fieldAddr (j := 1) rfl (HF.ev rfl) (by kernel_rfl)) ?_; clear HF; clear a; intro a HF
          refine wl_storeF rfl rfl rfl (HF.ev rfl) (HF.ev rfl) (by kernel_rfl) HS.out 1 rfl rfl rfl ?_; clear HS; intro w14 HS; replace HS := Bx.mk HS
          have HS : Bx (St w0 ([rowA WaitD.cells 2 144 (.slice (some ⟨b5, 0, none⟩) 1 1) ([(⟨n, t⟩ : WaitD)]), boxA b4 3 44 (.agg #[.slice qa3 p.d.fCells.length qc3, .slice ao6 (p.d.fWaits.length + ([(⟨n, t⟩ : WaitD)]).length) cp7, .bool p.d.fGone]), rowA encS 1 9 (.slice qa3 p.d.fCells.length qc3) p.d.fCells, rowA WaitD.cells 2 144 (.slice ao6 (p.d.fWaits.length + ([(⟨n, t⟩ : WaitD)]).length) cp7) (p.d.fWaits ++ ([(⟨n, t⟩ : WaitD)])), boxA b2 3 44 (.agg #[.slice none 0 0, .slice none 0 0, .bool false]), boxA b1 3 44 (.agg #[.slice p.a0 p.d.fCells.length p.c0, .slice p.a1 p.d.fWaits.length p.c1, .bool p.d.fGone])]) _) := HS
          refine wpList_nil ?_
          refine ex_then ?_
          refine wp_seq ?_
          refine wp_region_lit ?_
          refine wl_y rfl HF rfl rfl (yl_loadR (cs := [.slice qa3 p.d.fCells.length qc3, .slice ao6 (p.d.fWaits.length + ([(⟨n, t⟩ : WaitD)]).length) cp7, .bool p.d.fGone]) rfl (HF.ev rfl) ((HS.out.box 1 rfl).sub 0 3) (by kernel_rfl)) ?_; clear HF; clear a; intro a HF
          refine wl_storeBox rfl HF rfl rfl (HF.ev rfl) (HF.ev rfl) HS.out 4 rfl (cells_lit [.slice qa3 p.d.fCells.length qc3, .slice ao6 (p.d.fWaits.length + ([(⟨n, t⟩ : WaitD)]).length) cp7, .bool p.d.fGone] rfl rfl) (by kernel_rfl) ?_; clear HS; intro w15 HS; replace HS := Bx.mk HS
          have HS : Bx (St w0 ([rowA WaitD.cells 2 144 (.slice (some ⟨b5, 0, none⟩) 1 1) ([(⟨n, t⟩ : WaitD)]), boxA b4 3 44 (.agg #[.slice qa3 p.d.fCells.length qc3, .slice ao6 (p.d.fWaits.length + ([(⟨n, t⟩ : WaitD)]).length) cp7, .bool p.d.fGone]), rowA encS 1 9 (.slice qa3 p.d.fCells.length qc3) p.d.fCells, rowA WaitD.cells 2 144 (.slice ao6 (p.d.fWaits.length + ([(⟨n, t⟩ : WaitD)]).length) cp7) (p.d.fWaits ++ ([(⟨n, t⟩ : WaitD)])), boxA b2 3 44 (.agg #[.slice qa3 p.d.fCells.length qc3, .slice ao6 (p.d.fWaits.length + ([(⟨n, t⟩ : WaitD)]).length) cp7, .bool p.d.fGone]), boxA b1 3 44 (.agg #[.slice p.a0 p.d.fCells.length p.c0, .slice p.a1 p.d.fWaits.length p.c1, .bool p.d.fGone])]) _) := HS
          refine wl_y rfl HF rfl rfl (yl_assign rfl (HF.ev rfl)) ?_; clear HF; clear a; intro a HF
          refine wpList_nil ?_
          refine ex_then ?_
          refine wp_ret ?_
          refine bp_ret2 HF Try.results50 (HF.resBox rfl (HS.out.box 4 rfl) (by kernel_rfl)) (HF.res rfl) ?_
          replace HS : Bx (St w0 ([rowA encS 1 9 (.slice qa3 p.d.fCells.length qc3) p.d.fCells, rowA WaitD.cells 2 144 (.slice ao6 (p.d.fWaits.length + ([(⟨n, t⟩ : WaitD)]).length) cp7) (p.d.fWaits ++ ([(⟨n, t⟩ : WaitD)])), rowA WaitD.cells 2 144 (.slice (some ⟨b5, 0, none⟩) 1 1) ([(⟨n, t⟩ : WaitD)]), boxA b4 3 44 (.agg #[.slice qa3 p.d.fCells.length qc3, .slice ao6 (p.d.fWaits.length + ([(⟨n, t⟩ : WaitD)]).length) cp7, .bool p.d.fGone]), boxA b2 3 44 (.agg #[.slice qa3 p.d.fCells.length qc3, .slice ao6 (p.d.fWaits.length + ([(⟨n, t⟩ : WaitD)]).length) cp7, .bool p.d.fGone]), boxA b1 3 44 (.agg #[.slice p.a0 p.d.fCells.length p.c0, .slice p.a1 p.d.fWaits.length p.c1, .bool p.d.fGone])]) _) := ⟨((HS.out).pick 3 rfl).pick 3 rfl⟩
          have hz : p.d.fWaits.length + [(⟨n, t⟩ : WaitD)].length = (p.d.fWaits ++ [(⟨n, t⟩ : WaitD)]).length := (List.length_append ..).symm
          have HT := ((((HS.out.erase 5).erase 4).erase 3).erase 2)
          rw [hz] at HT ⊢
          exact .inr ⟨by unfold DiskD.can; rw [q1, q2, q3, q4]; rfl, ⟨qa3, qc3, ao6, cp7, p.d.putD n t⟩, rfl, rfl, (St.join (r := [_, _]) (s := [])).1 HT⟩

set_option maxHeartbeats 1000000 in
set_option maxRecDepth 100000 in
theorem l4Copy_any (a0 : Option Addr) (c0 : Nat) (ps : List HD) (w0 : World) (hl : ps.length ≤ 1048576) (hf : ∀ k, (ps.getD k default).d.fits) (hR : Rd HD.cells 3 w0 a0 ps.length ps) (hP : ∀ k, k < ps.length → (ps.getD k default).reads w0) : Calls Try.prog 55 #[.agg #[.slice a0 ps.length c0]] w0 fun e w' => ∃ ao cp qs, e = .returned (.agg #[.slice ao qs.length cp]) ∧ dsOf qs = dsOf ps ∧ St w0 [rowA HD.cells 3 44 (.slice ao qs.length cp) qs, sepA (qs.map HD.asr)] w' := by
  have HR := Bx.mk hR; have HP := Bx.mk hP; clear hR hP
  have HS := Bx.mk (St.start w0)
  refine wc_enter Try.func55 rfl Try.ntmps55 [(0, .agg #[.slice a0 ps.length c0])] ⟨rfl, trivial⟩ rfl ?_; intro a HF
  refine wp_seq ?_
  refine wp_region_lit ?_
  refine wl_box rfl HF rfl (HF.ev rfl) (Z := [.slice a0 ps.length c0]) rfl rfl rfl rfl HS.out ?_; clear HF HS; clear a; intro a w1 b1 HF HS; replace HS := Bx.mk HS
  refine wl_alloc rfl HF rfl rfl rfl (Z := [.slice none 0 0]) (by kernel_rfl) rfl HS.out ?_; clear HF HS; clear a; intro a w2 b2 HF HS; replace HS := Bx.mk HS
  refine wpList_nil ?_
  refine ex_then ?_
  refine wp_seq ?_
  refine wp_region_lit ?_
  refine wl_empty (e := 44) (size := 3) rfl HF rfl rfl rfl (by kernel_rfl) HS.out ?_; clear HF HS; clear a; intro a w3 b3 HF HS; replace HS := Bx.mk HS
  refine wl_y rfl HF rfl rfl (yl_build HF rfl (ps := [(0, .slice (some ⟨b3, 0, none⟩) 0 0)]) rfl (cs := #[.slice (some ⟨b3, 0, none⟩) 0 0]) (by kernel_rfl)) ?_; clear HF; clear a; intro a HF
  refine wl_alloc rfl HF rfl rfl rfl (Z := [.slice none 0 0]) (by kernel_rfl) rfl HS.out ?_; clear HF HS; clear a; intro a w4 b4 HF HS; replace HS := Bx.mk HS
  refine wl_storeBox rfl HF rfl rfl (HF.ev rfl) (HF.ev rfl) HS.out 0 rfl (cells_lit [.slice (some ⟨b3, 0, none⟩) 0 0] rfl rfl) (by kernel_rfl) ?_; clear HS; intro w5 HS; replace HS := Bx.mk HS
  have HS : Bx (St w0 ([boxA b4 1 25 (.agg #[.slice (some ⟨b3, 0, none⟩) 0 0]), boxA b2 1 25 (.agg #[.slice none 0 0]), boxA b1 1 25 (.agg #[.slice a0 ps.length c0])]) _) := HS
  refine wpList_nil ?_
  refine ex_then ?_
  refine wp_seq ?_
  refine wp_seq ?_
  refine wp_region_lit ?_
  refine wl_y rfl HF rfl rfl (yl_assign rfl (HF.ev rfl)) ?_; clear HF; clear a; intro a HF
  refine wpList_nil ?_
  refine ex_then ?_
  refine wp_block ?_
  replace HS := Bx.mk ((HS.out.hdNil).nilRow HD.cells 3 44 (some ⟨b3, 0, none⟩))
  refine wc_loop (ι := Nat) (fun k a w => ∃ (ao : Option Addr) (cp : Nat) (qs : List HD), (k ≤ ps.length ∧ qs.length = k ∧ dsOf qs = dsOf (ps.take k)) ∧ Fr 26 a [(1, .pointer (some ⟨b1, 0, none⟩)), (2, .pointer (some ⟨b2, 0, none⟩)), (3, .pointer (some ⟨b4, 0, none⟩)), (4, .int .i64 (k : Int))] ∧ St w0 ([rowA HD.cells 3 44 (.slice ao qs.length cp) qs, sepA (qs.map HD.asr), boxA b4 1 25 (.agg #[.slice ao qs.length cp]), boxA b2 1 25 (.agg #[.slice none 0 0]), boxA b1 1 25 (.agg #[.slice a0 ps.length c0])]) w) (fun k => ps.length - k) 0 ⟨_, _, [], ⟨Nat.zero_le _, rfl, rfl⟩, HF.less _ ⟨rfl, rfl, rfl, rfl, trivial⟩, HS.out⟩ ?_
  clear HF HS; clear a
  rintro k a w6 ⟨ao, cp, qs, ⟨hk, hql, hq⟩, HF, HS⟩
  replace HS := Bx.mk HS
  refine wp_seq ?_
  refine wp_seq ?_
  refine wp_region_lit ?_
  refine wl_y rfl HF rfl rfl (yl_move rfl (HF.ev rfl)) ?_; clear HF; clear a; intro a HF
  refine wl_y rfl HF rfl rfl (yl_fieldAddr (j := 0) rfl (HF.ev rfl) (by kernel_rfl)) ?_; clear HF; clear a; intro a HF
  refine wl_y rfl HF rfl rfl (yl_load (v := .slice a0 ps.length c0) rfl (HF.ev rfl) (((HS.out.box 4 rfl).cell 0).trans rfl) (by kernel_rfl)) ?_; clear HF; clear a; intro a HF
  refine wl_y rfl HF rfl rfl (yl_lenL (e := 44) (size := 3) rfl (HF.ev rfl) (by kernel_rfl)) ?_; clear HF; clear a; intro a HF
  refine wl_y rfl HF rfl rfl (yl_lssI rfl (HF.ev rfl) (HF.ev rfl)) ?_; clear HF; clear a; intro a HF
  refine wpList_nil ?_
  refine ex_then ?_
  refine HF.cases 11 rfl (fun cc1 HF1 => ?_) (fun cc1 HF1 => ?_)
  · clear HF; have HF := HF1; clear HF1
    have dcc1 := of_decide_eq_true cc1
    refine wc_true HF rfl ?_
    refine wp_skip ?_
    refine ex_then ?_
    refine wp_seq ?_
    refine wp_block ?_
    obtain ⟨g0, o0, r0⟩ := HR.out.opn; have R0 := Bx.mk r0; clear r0
    refine wr_marked (W := w0) (s := [sepA (qs.map HD.asr), boxA b4 1 25 (.agg #[.slice ao qs.length cp]), boxA b2 1 25 (.agg #[.slice none 0 0]), boxA b1 1 25 (.agg #[.slice a0 ps.length c0])]) 11 (by kernel_rfl) ?_
    have HS2 := Bx.mk HS.out.drew; replace HS := Bx.mk (show St w0 ([sepA (qs.map HD.asr), boxA b4 1 25 (.agg #[.slice ao qs.length cp]), boxA b2 1 25 (.agg #[.slice none 0 0]), boxA b1 1 25 (.agg #[.slice a0 ps.length c0])]) _ from (HS.out.drew.erase 0)); generalize World.drew _ = w7 at HS HS2 ⊢
    refine wm_t 0 rfl (by kernel_rfl) (by kernel_rfl) (by kernel_rfl) (fun _ _ _ h => h) (by decide) rfl HF rfl rfl (fun _ _ => (yl_fieldAddr (j := 0) rfl (HF.ev rfl) (by kernel_rfl))) (fun _ => HS.out) ?_; clear HF; clear a; intro a HF
    refine wm_y 1 rfl (by kernel_rfl) (by kernel_rfl) (by kernel_rfl) (fun _ _ _ h => h) (by decide) (by kernel_rfl) (by kernel_rfl) rfl HF rfl rfl (fun _ HS => (yl_load (v := .slice ao qs.length cp) rfl (HF.ev rfl) (((HS.box 1 rfl).cell 0).trans rfl) (by kernel_rfl))) HS.out ?_; clear HF; clear a; intro a HF
    refine wm_t 2 rfl (by kernel_rfl) (by kernel_rfl) (by kernel_rfl) (fun _ _ _ h => h) (by decide) rfl HF rfl rfl (fun _ _ => (yl_fieldAddr (j := 0) rfl (HF.ev rfl) (by kernel_rfl))) (fun _ => HS.out) ?_; clear HF; clear a; intro a HF
    refine wm_y 3 rfl (by kernel_rfl) (by kernel_rfl) (by kernel_rfl) (fun _ _ _ h => h) (by decide) (by kernel_rfl) (by kernel_rfl) rfl HF rfl rfl (fun _ HS => (yl_load (v := .slice a0 ps.length c0) rfl (HF.ev rfl) (((HS.box 3 rfl).cell 0).trans rfl) (by kernel_rfl))) HS.out ?_; clear HF; clear a; intro a HF
    refine wm_t 4 rfl (by kernel_rfl) (by kernel_rfl) (by kernel_rfl) (fun _ _ _ h => h) (by decide) rfl HF rfl rfl (fun _ _ => (yl_move rfl (HF.ev rfl))) (fun _ => HS.out) ?_; clear HF; clear a; intro a HF
    refine wm_y 5 rfl (by kernel_rfl) (by kernel_rfl) (by kernel_rfl) (fun _ _ _ h => h) (by decide) (by kernel_rfl) (by kernel_rfl) rfl HF rfl rfl (fun _ HS => (yl_indexAddrR (e := 44) (i := k) (size := 3) rfl (HF.ev rfl) (HF.ev rfl) (by kernel_rfl) rfl (by omega) (R0.out.ao k (by omega)))) HS.out ?_; clear HF; clear a; intro a HF
    refine wm_y 6 rfl (by kernel_rfl) (by kernel_rfl) (by kernel_rfl) (fun _ _ _ h => h) (by decide) (by kernel_rfl) (by kernel_rfl) rfl HF rfl rfl (fun _ HS => (yl_loadR (cs := [.slice ((ps.getD k default).a0) ((ps.getD k default).d.fCells.length) ((ps.getD k default).c0), .slice ((ps.getD k default).a1) ((ps.getD k default).d.fWaits.length) ((ps.getD k default).c1), .bool ((ps.getD k default).d.fGone)]) rfl (HF.ev rfl) (R0.out.elem HS (get_getD (xs := ps) (j := k) (d := default) (by omega))) (by kernel_rfl))) HS.out ?_; clear HF; clear a; intro a HF
    refine wm_one 7 (by kernel_rfl) ?_
    refine wo_call rfl rfl HF rfl (enter_of Try.func124 (by kernel_rfl) rfl) (args := #[.agg #[.slice ((ps.getD k default).a0) ((ps.getD k default).d.fCells.length) ((ps.getD k default).c0), .slice ((ps.getD k default).a1) ((ps.getD k default).d.fWaits.length) ((ps.getD k default).c1), .bool ((ps.getD k default).d.fGone)]]) rfl (l3CopyH_any (ps.getD k default) _ ((HP.out k (by omega)).below HS2.out.bel) (hf k)) rfl rfl ?_
    rintro _ w8 ⟨⟨qa5, qc5, qb5, qe5, qd⟩, hqd, rfl, hs⟩; obtain rfl : qd = (ps.getD k default).d := hqd; refine ⟨_, rfl, ?_⟩
    replace HS := Bx.mk (HS.out.later hs.bel)
    replace HS2 := Bx.mk ((HS2.out.add hs)); clear hs HF; clear a; intro a HF
    replace HS2 : Bx (St w0 ([HD.asr ⟨qa5, qc5, qb5, qe5, (ps.getD k default).d⟩, rowA HD.cells 3 44 (.slice ao qs.length cp) qs, sepA (qs.map HD.asr), boxA b4 1 25 (.agg #[.slice ao qs.length cp]), boxA b2 1 25 (.agg #[.slice none 0 0]), boxA b1 1 25 (.agg #[.slice a0 ps.length c0])]) _) := ⟨HS2.out⟩
    refine ⟨fun _ => HS.out, ?_⟩
    refine wm_one 8 (by kernel_rfl) ?_
    refine wo_buildS (enc := HD.cells) (e := 44) (size := 3) rfl rfl HF rfl rfl rfl (ps := [(0, .agg #[.slice qa5 ((ps.getD k default).d.fCells.length) qc5, .slice qb5 ((ps.getD k default).d.fWaits.length) qe5, .bool ((ps.getD k default).d.fGone)])]) rfl (cells := [.slice qa5 ((ps.getD k default).d.fCells.length) qc5, .slice qb5 ((ps.getD k default).d.fWaits.length) qe5, .bool ((ps.getD k default).d.fGone)]) (by kernel_rfl) [(⟨qa5, qc5, qb5, qe5, (ps.getD k default).d⟩ : HD)] rfl rfl (by unfold maxLen; omega) rfl HS2.out HS.out ?_; clear HF HS HS2; clear a; intro b6 a w9 HF HS2 HS; replace HS := Bx.mk HS; replace HS2 := Bx.mk HS2; refine ⟨fun _ => HS.out, ?_⟩
    refine wm_one 9 (by kernel_rfl) ?_
    refine wo_appL rfl rfl HF rfl rfl rfl (HF.ev rfl) (HF.ev rfl) elemD HD.cells_len HS2.out 2 (xs := qs) rfl (ys := [(⟨qa5, qc5, qb5, qe5, (ps.getD k default).d⟩ : HD)]) (St.rdN HS2.out HD.cells_len 0 rfl) (cells_one_D _) (by unfold maxLen; simp only [List.length_cons, List.length_nil]; omega) (by simp only [List.length_cons, List.length_nil]; omega) ?_; clear HF HS HS2; clear a; intro ao7 cp8 w10 a HF HS2; replace HS2 := Bx.mk HS2
    replace HS2 : Bx (St w0 ([rowA HD.cells 3 44 (.slice (some ⟨b6, 0, none⟩) 1 1) ([(⟨qa5, qc5, qb5, qe5, (ps.getD k default).d⟩ : HD)]), HD.asr ⟨qa5, qc5, qb5, qe5, (ps.getD k default).d⟩, rowA HD.cells 3 44 (.slice ao7 (qs.length + ([(⟨qa5, qc5, qb5, qe5, (ps.getD k default).d⟩ : HD)]).length) cp8) (qs ++ ([(⟨qa5, qc5, qb5, qe5, (ps.getD k default).d⟩ : HD)])), sepA (qs.map HD.asr), boxA b4 1 25 (.agg #[.slice ao qs.length cp]), boxA b2 1 25 (.agg #[.slice none 0 0]), boxA b1 1 25 (.agg #[.slice a0 ps.length c0])]) _) := ⟨HS2.out⟩
    have HS : Bx (St w0 ([sepA (qs.map HD.asr), boxA b4 1 25 (.agg #[.slice ao qs.length cp]), boxA b2 1 25 (.agg #[.slice none 0 0]), boxA b1 1 25 (.agg #[.slice a0 ps.length c0])]) _) := ⟨(((HS2.out.erase 2).erase 1).erase 0)⟩
    refine ⟨fun _ => HS.out, ?_⟩
    refine wm_t 10 rfl (by kernel_rfl) (by kernel_rfl) (by kernel_rfl) (fun _ _ _ h => h) (by decide) rfl HF rfl rfl (fun _ _ => (yl_fieldAddr (j := 0) rfl (HF.ev rfl) (by kernel_rfl))) (fun _ => HS.out) ?_; clear HF; clear a; intro a HF
    refine wm_one 11 (by kernel_rfl) ?_
    refine wo_storeF rfl rfl rfl rfl (HF.ev rfl) (HF.ev rfl) (by kernel_rfl) HS2.out 4 rfl rfl rfl ?_
    clear HS2; intro w11 HS2; replace HS2 : Bx (St w0 ([rowA HD.cells 3 44 (.slice (some ⟨b6, 0, none⟩) 1 1) ([(⟨qa5, qc5, qb5, qe5, (ps.getD k default).d⟩ : HD)]), HD.asr ⟨qa5, qc5, qb5, qe5, (ps.getD k default).d⟩, rowA HD.cells 3 44 (.slice ao7 (qs.length + ([(⟨qa5, qc5, qb5, qe5, (ps.getD k default).d⟩ : HD)]).length) cp8) (qs ++ ([(⟨qa5, qc5, qb5, qe5, (ps.getD k default).d⟩ : HD)])), sepA (qs.map HD.asr), boxA b4 1 25 (.agg #[.slice ao7 (qs.length + ([(⟨qa5, qc5, qb5, qe5, (ps.getD k default).d⟩ : HD)]).length) cp8]), boxA b2 1 25 (.agg #[.slice none 0 0]), boxA b1 1 25 (.agg #[.slice a0 ps.length c0])]) _) := ⟨HS2⟩; refine ⟨(fun h => absurd (show true = false from h) (by decide)), ?_⟩
    refine wm_done (by kernel_rfl) ?_
    clear HS; have HS := HS2; clear HS2
    refine ex_block ?_
    refine ex_then ?_
    refine wp_region_lit ?_
    refine wl_y rfl HF rfl rfl (yl_move rfl (HF.ev rfl)) ?_; clear HF; clear a; intro a HF
    refine wl_y rfl HF rfl rfl (yl_addI rfl (HF.ev rfl) (HF.ev rfl) (i64w (by omega))) ?_; clear HF; clear a; intro a HF
    refine wl_y rfl HF rfl rfl (yl_assign rfl (HF.ev rfl)) ?_; clear HF; clear a; intro a HF
    refine wpList_nil ?_
    refine ex_then ?_
    have hz : qs.length + [(⟨qa5, qc5, qb5, qe5, (ps.getD k default).d⟩ : HD)].length = (qs ++ [(⟨qa5, qc5, qb5, qe5, (ps.getD k default).d⟩ : HD)]).length := (List.length_append ..).symm
    rw [hz] at HS
    replace HS := Bx.mk (St.hdSnoc (((HS.out).pick 3 rfl).pick 2 rfl))
    replace HS := Bx.mk ((((((((HS.out).pick 5 rfl).pick 5 rfl).pick 5 rfl).pick 3 rfl).pick 5 rfl).erase 5))
    have hnext : dsOf (qs ++ [(⟨qa5, qc5, qb5, qe5, (ps.getD k default).d⟩ : HD)]) = dsOf (ps.take (k + 1)) := by rw [dsOf_append, hq, dsOf_take_succ ps k (by omega)]; rfl
    exact ⟨k + 1, ⟨_, _, qs ++ [(⟨qa5, qc5, qb5, qe5, (ps.getD k default).d⟩ : HD)], ⟨by omega, by rw [List.length_append]; show qs.length + 1 = k + 1; omega, hnext⟩, HF.less _ ⟨rfl, rfl, rfl, rfl, trivial⟩, HS.out⟩, (by omega)⟩
  · clear HF; have HF := HF1; clear HF1
    have dcc1 := of_decide_eq_false cc1
    refine wc_false HF rfl ?_
    refine wp_exit ?_
    refine ex_then_exit ?_
    refine ex_then_exit ?_
    refine ex_block_hit ?_
    refine ex_then ?_
    refine wp_seq ?_
    refine wp_region_lit ?_
    refine wl_y rfl HF rfl rfl (yl_loadR (cs := [.slice ao qs.length cp]) rfl (HF.ev rfl) ((HS.out.box 2 rfl).sub 0 1) (by kernel_rfl)) ?_; clear HF; clear a; intro a HF
    refine wl_storeBox rfl HF rfl rfl (HF.ev rfl) (HF.ev rfl) HS.out 3 rfl (cells_lit [.slice ao qs.length cp] rfl rfl) (by kernel_rfl) ?_; clear HS; intro w12 HS; replace HS := Bx.mk HS
    have HS : Bx (St w0 ([rowA HD.cells 3 44 (.slice ao qs.length cp) qs, sepA (qs.map HD.asr), boxA b4 1 25 (.agg #[.slice ao qs.length cp]), boxA b2 1 25 (.agg #[.slice ao qs.length cp]), boxA b1 1 25 (.agg #[.slice a0 ps.length c0])]) _) := HS
    refine wpList_nil ?_
    refine ex_then ?_
    refine wp_ret ?_
    refine bp_ret1 HF Try.results55 (HF.resBox rfl (HS.out.box 3 rfl) (by kernel_rfl)) ?_
    replace HS : Bx (St w0 ([rowA HD.cells 3 44 (.slice ao qs.length cp) qs, sepA (qs.map HD.asr), boxA b4 1 25 (.agg #[.slice ao qs.length cp]), boxA b2 1 25 (.agg #[.slice ao qs.length cp]), boxA b1 1 25 (.agg #[.slice a0 ps.length c0])]) _) := ⟨((HS.out).pick 1 rfl).pick 1 rfl⟩
    obtain rfl : k = ps.length := by omega
    rw [List.take_length] at hq
    exact ⟨_, _, qs, rfl, hq, (((HS.out.erase 4).erase 3).erase 2)⟩

end Go.Proofs.Ytfijfjjleelphaa

/- markText: a text for each number. -/
namespace Go.Proofs.Ytfijfjjleelphaa
open Go.RowKit

/-- The decimal digits of a number, ahead of some bytes. -/
def decs (n : Nat) (acc : List UInt8) : List UInt8 := if n = 0 then acc else decs (n / 10) ((48 + UInt8.ofNat (n % 10)) :: acc)
termination_by n
decreasing_by omega
def markT (k : Int) : ByteArray := ⟨(109 :: decs k.toNat []).toArray⟩
theorem decs_pos {n : Nat} (h : 0 < n) (acc : List UInt8) : decs n acc = decs (n / 10) ((48 + UInt8.ofNat (n % 10)) :: acc) := by
  rw [decs]; exact if_neg (by omega)
theorem decs_zero (acc : List UInt8) : decs 0 acc = acc := by
  rw [decs]; exact if_pos rfl
theorem pow_small {L n : Nat} (h : n * 10 ^ L ≤ 9223372036854775807) (hn : 0 < n) : L ≤ 18 := by
  by_cases hl : L ≤ 18
  · exact hl
  · have h1 : 10 ^ 19 ≤ 10 ^ L := Nat.pow_le_pow_right (by omega) (by omega)
    have h2 : 1 * 10 ^ L ≤ n * 10 ^ L := Nat.mul_le_mul_right _ hn
    omega
theorem pow_step {L n : Nat} (h : n * 10 ^ L ≤ 9223372036854775807) : n / 10 * 10 ^ (L + 1) ≤ 9223372036854775807 := by
  have h1 : n / 10 * 10 ≤ n := Nat.div_mul_le_self n 10
  have h2 := Nat.mul_le_mul_right (10 ^ L) h1
  rw [Nat.pow_succ, Nat.mul_comm (10 ^ L) 10, ← Nat.mul_assoc]
  omega

/-- A byte that lies in a new block of one cell, as a text. -/
theorem conv1 {P : Program} (w : World) (src dst e : TypeId) (n : Int) (h0 : 0 ≤ n) (h1 : n < 256) (hs : P.underlying src = some (.slice e)) (he : P.underlying e = some (.int .u8)) (hd : P.underlying dst = some .string) :
    (convert src dst (.slice (some ⟨w.heap.size, 0, none⟩) 1 1)).run P (w.alloc (.cells #[.int .u8 n] e)) = .ok (.string ⟨[UInt8.ofNat n.toNat].toArray⟩) (w.alloc (.cells #[.int .u8 n] e)) := by
  refine run_convert_bytes_back (P := P) _ src dst e ⟨w.heap.size, 0, none⟩ 1 [UInt8.ofNat n.toNat] hs he hd ?_
  intro j hj
  simp at hj
  subst hj
  have e1 : ((UInt8.ofNat n.toNat).toNat : Int) = n := by
    rw [UInt8.toNat_ofNat']
    omega
  simp only [List.getElem_cons_zero, e1]
  exact blk_cell (blk_new w _ _ rfl) 0

set_option maxHeartbeats 400000 in
set_option maxRecDepth 100000 in
theorem markText_any (k : Int) (w : World) (h0 : 0 < k) (h1 : k ≤ 9223372036854775807) :
    Calls Try.prog 147 #[.int .i64 k] w fun e w' => e = .returned (.string (markT k)) ∧ Below w.heap.size w w' := by
  go_enter Try.func147, Try.ntmps147
  go_wp2
  go_loopw [0, 3] (fun k' s wr => ∃ (n : Nat) (acc : List UInt8), n * 10 ^ acc.length ≤ 9223372036854775807 ∧ acc.length ≤ 19 ∧ k' = .int .i64 n ∧ s = .string ⟨acc.toArray⟩ ∧ decs n acc = decs k.toNat [] ∧ Below w.heap.size w wr) (fun k' _ _ => (intOf k').toNat)
  case atStart => exact ⟨k.toNat, [], by simp; omega, by simp, by rw [Int.toNat_of_nonneg (by omega)], rfl, rfl, Below.refl _ _⟩
  case round =>
    obtain ⟨n, acc, hn, hl, rfl, rfl, hd, hb⟩ := hrel
    have HD := Lib.hid hd
    have HN := Lib.hid hn
    have hn1 : n ≤ 9223372036854775807 := Nat.le_trans (Nat.le_mul_of_pos_right n (Nat.pow_pos (by omega))) hn
    clear hd hn
    by_cases hlt : 0 < n
    · have hcv := conv1 (P := Try.prog) wr 22 9 5 (48 + (n : Int) % 10) (by omega) (by omega) Try.underlying22 Try.underlying5 Try.underlying9
      have hl2 := pow_small HN.out hlt
      go_wp2
      go_roundw
      case rel => exact ⟨n / 10, (48 + UInt8.ofNat (n % 10)) :: acc, pow_step HN.out, by simp; omega, by go_num, rfl, by rw [← HD.out, decs_pos hlt], hb.alloc hb.size _⟩
      case measure => simp [intOf]; omega
    · have hn0 : n = 0 := by omega
      subst hn0
      have hfin := Lib.hid (HD.out.symm.trans (decs_zero acc))
      go_wp2
      go_ret
      refine ⟨?_, hb⟩
      unfold markT
      rw [hfin.out]
      rfl
end Go.Proofs.Ytfijfjjleelphaa

/- Marking slices of strings. -/
namespace Go.Proofs.Ytfijfjjleelphaa
open Go.RowKit

set_option maxHeartbeats 400000 in
set_option maxRecDepth 100000 in
theorem markStringS_any (ao : Option Addr) (len cap B : Nat) (cs : List Value) (k : Int) (w : World) (hk0 : 0 < k) (hk1 : k ≤ 1000000000000) (hlen : len ≤ 1048576) (hpos : 0 < len) (hown : w.ownsRow B 9 1 (.slice ao len cap) len cs) :
    Calls Try.prog 94 #[.slice ao len cap, .int .i64 k] w fun e w' => e = .returned (.int .i64 (k + (len : Int) * 1)) ∧ w'.ownsRow B 9 1 (.slice ao len cap) len ((marks markT 1 k len).flatMap encS) ∧ w.grownBy w' (Value.slice ao len cap).ownBlock := by
  · obtain ⟨ao', cap', hv, hcl, _, hg⟩ := owns_slice hown
    obtain ⟨g, rfl, hgB, hgs⟩ := hg hpos
    simp only [Value.slice.injEq, true_and] at hv
    obtain ⟨rfl, rfl⟩ := hv
    have hml := marks_len markT 1 k len
    have hF0 : FillC encS 1 B 9 w g len cap (marks markT 1 k len) 0 := FillC.start hown
    clear hown
    go_enter Try.func94, Try.ntmps94
    go_wp2
    go_loopw [1, 5] (fun k' i wr => ∃ j : Nat, j ≤ len ∧ i = .int .i64 j ∧ k' = .int .i64 (k + (j : Int) * 1) ∧ FillC encS 1 B 9 wr g len cap (marks markT 1 k len) j ∧ w.grownBy wr (some g)) (fun _ i _ => len - (intOf i).toNat)
    case atStart => exact ⟨0, Nat.zero_le _, rfl, by simp, hF0, grown_refl _ _⟩
    case round =>
      obtain ⟨j, hj, rfl, rfl, hf, hgr⟩ := hrel
      by_cases hlt : j < len
      · have hx := Lib.hid (marks_get markT 1 k len j hlt)
        simp only [Int.mul_one] at hx
        obtain ⟨rest, hrest, hown⟩ := hf
        have hcs := Lib.hid (show ∃ rest' : List Value, rest'.length = (len - j) * 1 ∧ ((marks markT 1 k len).take j).flatMap encS ++ rest = ((marks markT 1 k len).take j).flatMap encS ++ rest' from ⟨rest, hrest, rfl⟩)
        have hlen2 : j * 1 + 1 ≤ (((marks markT 1 k len).take j).flatMap encS ++ rest).length := by
          rw [List.length_append, flat_len _ _ encS_len, List.length_take, hml, hrest]; omega
        have hdef : ∃ C, C = ((marks markT 1 k len).take j).flatMap encS ++ rest := ⟨_, rfl⟩
        obtain ⟨C, hC⟩ := hdef
        rw [← hC] at hown hlen2
        rw [← hC] at hcs
        have HC := Lib.hid hC
        clear hC hrest hml hF0
        have hL : j + 1 ≤ C.length := by omega
        have HT := owns_there hown (j) 1 (hL)
        obtain ⟨q0, hq0⟩ := Option.isSome_iff_exists.1 (HT 0 (by omega)).1
        have hz0 := (HT 0 (by omega)).2
        simp only [Nat.add_zero] at hq0 hz0
        clear HT
        go_wp2_with fail
        refine (markText_any _ _ (by omega) (by omega)).mono ?_
        rintro e w1 ⟨rfl, hb1⟩
        have ho1 := owns_below hown hb1 (Nat.le_refl _)
        have hgr1 := grown_trans hgr (grown_below hb1 (Nat.le_refl _) (some g))
        clear hown hq0 hz0
        have hL1 : j + 1 ≤ (C).length := by simpa using hL
        have HT := owns_there ho1 (j) 1 (hL1)
        obtain ⟨q0, hq0⟩ := Option.isSome_iff_exists.1 (HT 0 (by omega)).1
        have hz0 := (HT 0 (by omega)).2
        simp only [Nat.add_zero] at hq0 hz0
        clear HT
        go_wp2
        have hp0 := ho1.stored (j + 0) (.string (markT (k + (j : Int))))
        simp only [Nat.add_zero] at hp0
        have hgE := (grown_trans hgr1 hp0.2)
        have hoE := hp0.1
        have hsp : (C.set (j) (.string (markT (k + (j : Int))))) = splice C (j * 1) (encS (markT (k + (j : Int)))) := by
          show _ = splice C (j * 1) [.string (markT (k + (j : Int)))]
          rw [Nat.mul_one, splice_one _ _ _ (by omega)]
        rw [hsp] at hoE
        have hf3 := FillC.next encS_len (marks_len markT 1 k len) hx.out hcs.out hoE
        go_roundw
        case rel => exact ⟨j + 1, by omega, by go_num, by go_num, hf3, hgE⟩
        case measure => simp [intOf]; omega
      · have hk' : j = len := by omega
        subst hk'
        have hfd := FillC.done hf hml
        rw [hml] at hfd
        go_wp2
        go_ret
        exact ⟨rfl, hfd, hgr⟩
set_option maxHeartbeats 400000 in
set_option maxRecDepth 100000 in
theorem markStringS_zero (ao : Option Addr) (cap : Nat) (k : Int) (w : World) :
    Calls Try.prog 94 #[.slice ao 0 cap, .int .i64 k] w fun e w' => e = .returned (.int .i64 k) ∧ w = w' := by
  go_enter Try.func94, Try.ntmps94
  go_wp2
  go_loop [1, 5] (fun k' i => i = .int .i64 0 ∧ k' = .int .i64 k) (fun _ _ => 0)
  case atStart => exact ⟨rfl, rfl⟩
  case round =>
    obtain ⟨rfl, rfl⟩ := hrel
    go_wp2
    go_ret
    exact ⟨rfl, rfl⟩
theorem markStringS_r (ao : Option Addr) (cap : Nat) (B B1 : Nat) (xs : List ByteArray) (k : Int) (w : World) (hk0 : 0 < k) (hk1 : k ≤ 1000000000000) (hlen : xs.length ≤ 1048576) (h : RowO encS 1 9 w B B1 (.slice ao xs.length cap) xs) :
    Calls Try.prog 94 #[.slice ao xs.length cap, .int .i64 k] w fun e w' => e = .returned (.int .i64 (k + (xs.length : Int) * 1)) ∧ RowO encS 1 9 w' B B1 (.slice ao xs.length cap) (marks markT 1 k xs.length) ∧ w.grownBy w' (Value.rowBlock (.slice ao xs.length cap)) := by
  have hlt := h.lt
  obtain ⟨ao', cap', hv, hc, hg⟩ := h
  simp only [Value.slice.injEq, true_and] at hv
  obtain ⟨rfl, rfl⟩ := hv
  by_cases hpos : 0 < xs.length
  · rcases hc with ⟨_, hx⟩ | hown
    · rw [hx] at hpos; exact absurd hpos (Nat.lt_irrefl _)
    · obtain ⟨ao', cap', hv, hcl, _, _⟩ := owns_slice hown
      simp only [Value.slice.injEq, true_and] at hv
      obtain ⟨rfl, rfl⟩ := hv
      refine (markStringS_any ao xs.length cap B _ k w hk0 hk1 hlen hpos hown).mono ?_
      rintro e w' ⟨rfl, h1, h2⟩
      rw [rowBlock_pos (by omega)]
      refine ⟨rfl, ⟨ao, cap, by rw [marks_len], .inr (by rw [marks_len]; exact h1), hg⟩, h2⟩
  · have hx : xs = [] := List.length_eq_zero_iff.1 (by omega)
    subst hx
    refine (markStringS_zero ao cap k w).mono ?_
    rintro e w' ⟨rfl, rfl⟩
    refine ⟨by simp, ⟨ao, cap, by rw [marks_len], ?_, hg⟩, grown_refl _ _⟩
    rcases hc with ⟨h0, _⟩ | h0
    · exact .inl ⟨h0, rfl⟩
    · right
      rw [marks_len]
      simpa [marks] using h0

set_option maxHeartbeats 400000 in
set_option maxRecDepth 100000 in
theorem heldStringS_any (ao : Option Addr) (len cap : Nat) (k : Int) (w : World) (hk0 : 0 < k) (hk1 : k ≤ 1000000000000) (hlen : len ≤ 1048576) (hr : Rd encS 1 w ao len (marks markT 1 k len)) :
    Calls Try.prog 97 #[.slice ao len cap, .int .i64 k] w fun e w' => e = .returned (.int .i64 (k + (len : Int) * 1)) ∧ Below w.heap.size w w' := by
  go_enter Try.func97, Try.ntmps97
  go_wp2
  go_loopw [1, 5] (fun k' i wr => ∃ j : Nat, j ≤ len ∧ i = .int .i64 j ∧ k' = .int .i64 (k + (j : Int) * 1) ∧ Below w.heap.size w wr) (fun _ i _ => len - (intOf i).toNat)
  case atStart => exact ⟨0, Nat.zero_le _, rfl, by simp, Below.refl _ _⟩
  case round =>
    obtain ⟨j, hj, rfl, rfl, hb⟩ := hrel
    by_cases hlt : j < len
    · obtain ⟨b, off, x, hx0, rfl, hbl, hrg⟩ := hr.at_ j (by rw [hr.len]; exact hlt)
      obtain rfl := Option.some.inj (hx0.symm.trans (marks_get markT 1 k len j hlt))
      clear hx0
      have hrg2 := rangeAt_below hrg hb hbl
      have hbl2 : b < wr.heap.size := Nat.lt_of_lt_of_le hbl hb.size
      simp only [Nat.mul_one, Int.mul_one] at hrg2
      have c0 : wr.cell? ⟨b, off + j, none⟩ = some (.string (markT (k + (j : Int)))) := hrg2 0 _ rfl
      clear hrg hrg2
      go_wp2_with fail
      go_region_with (first | (go_at_call 147; refine (markText_any _ _ (by omega) (by omega)).mono ?_; rintro e w1 ⟨rfl, hb_1⟩; have c1_0 := (hb_1.cell (p := ⟨b, off + j, none⟩) hbl2).trans c0; have hbl_1 : b < w1.heap.size := Nat.lt_of_lt_of_le hbl2 hb_1.size; have hbw_1 := hb.drew.trans (hb_1.mono hb.size)))
      all_goals
        go_wp2
        go_roundw
        case rel => exact ⟨j + 1, by omega, by go_num, by go_num, hbw_1⟩
        case measure => simp [intOf]; omega
    · have hk' : j = len := by omega
      subst hk'
      go_wp2
      go_ret
      exact ⟨rfl, hb⟩

end Go.Proofs.Ytfijfjjleelphaa

/- Marking waiting writes. -/
namespace Go.Proofs.Ytfijfjjleelphaa
open Go.RowKit

def mkWait (k : Int) : WaitD := { fAt := (k), fText := markT (k + 1) }
set_option maxHeartbeats 400000 in
set_option maxRecDepth 100000 in
theorem markWaitS_any (ao : Option Addr) (len cap B : Nat) (cs : List Value) (k : Int) (w : World) (hk0 : 0 < k) (hk1 : k ≤ 1000000000000) (hlen : len ≤ 1048576) (hpos : 0 < len) (hown : w.ownsRow B 144 2 (.slice ao len cap) len cs) :
    Calls Try.prog 156 #[.slice ao len cap, .int .i64 k] w fun e w' => e = .returned (.int .i64 (k + (len : Int) * 2)) ∧ w'.ownsRow B 144 2 (.slice ao len cap) len ((marks mkWait 2 k len).flatMap WaitD.cells) ∧ w.grownBy w' (Value.slice ao len cap).ownBlock := by
  · obtain ⟨ao', cap', hv, hcl, _, hg⟩ := owns_slice hown
    obtain ⟨g, rfl, hgB, hgs⟩ := hg hpos
    simp only [Value.slice.injEq, true_and] at hv
    obtain ⟨rfl, rfl⟩ := hv
    have hml := marks_len mkWait 2 k len
    have hF0 : FillC WaitD.cells 2 B 144 w g len cap (marks mkWait 2 k len) 0 := FillC.start hown
    clear hown
    go_enter Try.func156, Try.ntmps156
    go_wp2
    go_loopw [1, 5] (fun k' i wr => ∃ j : Nat, j ≤ len ∧ i = .int .i64 j ∧ k' = .int .i64 (k + (j : Int) * 2) ∧ FillC WaitD.cells 2 B 144 wr g len cap (marks mkWait 2 k len) j ∧ w.grownBy wr (some g)) (fun _ i _ => len - (intOf i).toNat)
    case atStart => exact ⟨0, Nat.zero_le _, rfl, by simp, hF0, grown_refl _ _⟩
    case round =>
      obtain ⟨j, hj, rfl, rfl, hf, hgr⟩ := hrel
      by_cases hlt : j < len
      · have hx := Lib.hid (marks_get mkWait 2 k len j hlt)
        obtain ⟨rest, hrest, hown⟩ := hf
        have hcs := Lib.hid (show ∃ rest' : List Value, rest'.length = (len - j) * 2 ∧ ((marks mkWait 2 k len).take j).flatMap WaitD.cells ++ rest = ((marks mkWait 2 k len).take j).flatMap WaitD.cells ++ rest' from ⟨rest, hrest, rfl⟩)
        have hlen2 : j * 2 + 2 ≤ (((marks mkWait 2 k len).take j).flatMap WaitD.cells ++ rest).length := by
          rw [List.length_append, flat_len _ _ WaitD.cells_len, List.length_take, hml, hrest]; omega
        have hdef : ∃ C, C = ((marks mkWait 2 k len).take j).flatMap WaitD.cells ++ rest := ⟨_, rfl⟩
        obtain ⟨C, hC⟩ := hdef
        rw [← hC] at hown hlen2
        rw [← hC] at hcs
        have HC := Lib.hid hC
        clear hC hrest hml hF0
        have hL : j * 2 + 2 ≤ C.length := by omega
        have HT := owns_there hown (j * 2) 2 (hL)
        obtain ⟨q0, hq0⟩ := Option.isSome_iff_exists.1 (HT 0 (by omega)).1
        have hz0 := (HT 0 (by omega)).2
        obtain ⟨q1, hq1⟩ := Option.isSome_iff_exists.1 (HT 1 (by omega)).1
        have hz1 := (HT 1 (by omega)).2
        simp only [Nat.add_zero] at hq0 hz0 hq1 hz1
        clear HT
        go_wp2_with fail
        refine (markText_any _ _ (by omega) (by omega)).mono ?_
        rintro e w1 ⟨rfl, hb1⟩
        have hp0 := hown.stored (j * 2 + 0) (.int .i64 (k + (j : Int) * 2))
        simp only [Nat.add_zero] at hp0
        have ho1 := owns_below hp0.1 hb1 (Nat.le_refl _)
        have hgr1 := grown_trans (grown_trans hgr hp0.2) (grown_below hb1 (Nat.le_refl _) (some g))
        clear hown hq0 hz0 hq1 hz1 hp0
        have hL1 : j * 2 + 2 ≤ ((C.set (j * 2) (.int .i64 (k + (j : Int) * 2)))).length := by simpa using hL
        have HT := owns_there ho1 (j * 2) 2 (hL1)
        obtain ⟨q1, hq1⟩ := Option.isSome_iff_exists.1 (HT 1 (by omega)).1
        have hz1 := (HT 1 (by omega)).2
        clear HT
        go_wp2
        have hp1 := ho1.stored (j * 2 + 1) (.string (markT ((k + (j : Int) * 2) + 1)))
        have hgE := (grown_trans hgr1 hp1.2)
        have hoE := hp1.1
        have hsp : ((C.set (j * 2) (.int .i64 (k + (j : Int) * 2))).set (j * 2 + 1) (.string (markT ((k + (j : Int) * 2) + 1)))) = splice C (j * 2) (WaitD.cells (mkWait (k + (j : Int) * 2))) := by
          show _ = splice C (j * 2) [.int .i64 (k + (j : Int) * 2), .string (markT ((k + (j : Int) * 2) + 1))]
          rw [← splice_cons _ (j * 2) _ _ (by simp; omega)]
          rw [splice_one _ _ _ (by simp; omega)]
        rw [hsp] at hoE
        have hf3 := FillC.next WaitD.cells_len (marks_len mkWait 2 k len) hx.out hcs.out hoE
        go_roundw
        case rel => exact ⟨j + 1, by omega, by go_num, by go_num, hf3, hgE⟩
        case measure => simp [intOf]; omega
      · have hk' : j = len := by omega
        subst hk'
        have hfd := FillC.done hf hml
        rw [hml] at hfd
        go_wp2
        go_ret
        exact ⟨rfl, hfd, hgr⟩
set_option maxHeartbeats 400000 in
set_option maxRecDepth 100000 in
theorem markWaitS_zero (ao : Option Addr) (cap : Nat) (k : Int) (w : World) :
    Calls Try.prog 156 #[.slice ao 0 cap, .int .i64 k] w fun e w' => e = .returned (.int .i64 k) ∧ w = w' := by
  go_enter Try.func156, Try.ntmps156
  go_wp2
  go_loop [1, 5] (fun k' i => i = .int .i64 0 ∧ k' = .int .i64 k) (fun _ _ => 0)
  case atStart => exact ⟨rfl, rfl⟩
  case round =>
    obtain ⟨rfl, rfl⟩ := hrel
    go_wp2
    go_ret
    exact ⟨rfl, rfl⟩
theorem markWaitS_r (ao : Option Addr) (cap : Nat) (B B1 : Nat) (xs : List WaitD) (k : Int) (w : World) (hk0 : 0 < k) (hk1 : k ≤ 1000000000000) (hlen : xs.length ≤ 1048576) (h : RowO WaitD.cells 2 144 w B B1 (.slice ao xs.length cap) xs) :
    Calls Try.prog 156 #[.slice ao xs.length cap, .int .i64 k] w fun e w' => e = .returned (.int .i64 (k + (xs.length : Int) * 2)) ∧ RowO WaitD.cells 2 144 w' B B1 (.slice ao xs.length cap) (marks mkWait 2 k xs.length) ∧ w.grownBy w' (Value.rowBlock (.slice ao xs.length cap)) := by
  have hlt := h.lt
  obtain ⟨ao', cap', hv, hc, hg⟩ := h
  simp only [Value.slice.injEq, true_and] at hv
  obtain ⟨rfl, rfl⟩ := hv
  by_cases hpos : 0 < xs.length
  · rcases hc with ⟨_, hx⟩ | hown
    · rw [hx] at hpos; exact absurd hpos (Nat.lt_irrefl _)
    · obtain ⟨ao', cap', hv, hcl, _, _⟩ := owns_slice hown
      simp only [Value.slice.injEq, true_and] at hv
      obtain ⟨rfl, rfl⟩ := hv
      refine (markWaitS_any ao xs.length cap B _ k w hk0 hk1 hlen hpos hown).mono ?_
      rintro e w' ⟨rfl, h1, h2⟩
      rw [rowBlock_pos (by omega)]
      refine ⟨rfl, ⟨ao, cap, by rw [marks_len], .inr (by rw [marks_len]; exact h1), hg⟩, h2⟩
  · have hx : xs = [] := List.length_eq_zero_iff.1 (by omega)
    subst hx
    refine (markWaitS_zero ao cap k w).mono ?_
    rintro e w' ⟨rfl, rfl⟩
    refine ⟨by simp, ⟨ao, cap, by rw [marks_len], ?_, hg⟩, grown_refl _ _⟩
    rcases hc with ⟨h0, _⟩ | h0
    · exact .inl ⟨h0, rfl⟩
    · right
      rw [marks_len]
      simpa [marks] using h0

set_option maxHeartbeats 400000 in
set_option maxRecDepth 100000 in
theorem heldWaitS_any (ao : Option Addr) (len cap : Nat) (k : Int) (w : World) (hk0 : 0 < k) (hk1 : k ≤ 1000000000000) (hlen : len ≤ 1048576) (hr : Rd WaitD.cells 2 w ao len (marks mkWait 2 k len)) :
    Calls Try.prog 157 #[.slice ao len cap, .int .i64 k] w fun e w' => e = .returned (.int .i64 (k + (len : Int) * 2)) ∧ Below w.heap.size w w' := by
  go_enter Try.func157, Try.ntmps157
  go_wp2
  go_loopw [1, 5] (fun k' i wr => ∃ j : Nat, j ≤ len ∧ i = .int .i64 j ∧ k' = .int .i64 (k + (j : Int) * 2) ∧ Below w.heap.size w wr) (fun _ i _ => len - (intOf i).toNat)
  case atStart => exact ⟨0, Nat.zero_le _, rfl, by simp, Below.refl _ _⟩
  case round =>
    obtain ⟨j, hj, rfl, rfl, hb⟩ := hrel
    by_cases hlt : j < len
    · obtain ⟨b, off, x, hx0, rfl, hbl, hrg⟩ := hr.at_ j (by rw [hr.len]; exact hlt)
      obtain rfl := Option.some.inj (hx0.symm.trans (marks_get mkWait 2 k len j hlt))
      clear hx0
      have hrg2 := rangeAt_below hrg hb hbl
      have hbl2 : b < wr.heap.size := Nat.lt_of_lt_of_le hbl hb.size
      have c0 : wr.cell? ⟨b, off + j * 2, none⟩ = some (.int .i64 (k + (j : Int) * 2)) := hrg2 0 _ rfl
      have c1 : wr.cell? ⟨b, off + j * 2 + 1, none⟩ = some (.string (markT ((k + (j : Int) * 2) + 1))) := hrg2 1 _ rfl
      clear hrg hrg2
      go_wp2_with fail
      go_region_with (first | (go_at_call 147; refine (markText_any _ _ (by omega) (by omega)).mono ?_; rintro e w1 ⟨rfl, hb_1⟩; have c1_1 := (hb_1.cell (p := ⟨b, off + j * 2 + 1, none⟩) hbl2).trans c1; have hbl_1 : b < w1.heap.size := Nat.lt_of_lt_of_le hbl2 hb_1.size; have hbw_1 := hb.drew.trans (hb_1.mono hb.size)))
      all_goals
        go_wp2
        go_roundw
        case rel => exact ⟨j + 1, by omega, by go_num, by go_num, hbw_1⟩
        case measure => simp [intOf]; omega
    · have hk' : j = len := by omega
      subst hk'
      go_wp2
      go_ret
      exact ⟨rfl, hb⟩

end Go.Proofs.Ytfijfjjleelphaa

/- Rows of elements of many cells: made, a field of an element written. No program in sight. -/
namespace Go.Proofs.Ytfijfjjleelphaa
open Go.RowKit
section
variable {P : Program} {ops : Array Oper} {Q : Exit → Act → World → Prop} {rest : List Oper} {o : Oper} {a : Act} {w W : World} {N : Nat} {l : List (Nat × Value)} {s : List Asr} {t e : TypeId} {x y : Operand} {α : Type} {enc : α → List Value} {size : Nat}
theorem made_flat (z : List Value) (size n : Nat) (hz : z.length = size) (hs : 0 < size) : (madeCells z.toArray (n * size)).toList = (List.replicate n z).flatten := by
  apply List.ext_getElem
  · simp [madeCells, hz]
  · intro i h1 h2
    have hi : i < n * size := by simpa [madeCells] using h1
    have key : ∀ (n i : Nat) (h : i < (List.replicate n z).flatten.length), (List.replicate n z).flatten[i] = z[i % size]'(by rw [hz]; exact Nat.mod_lt _ hs) := by
      intro n
      induction n with
      | zero => intro i h; simp at h
      | succ n ih =>
        intro i h
        simp only [List.replicate_succ, List.flatten_cons]
        by_cases hlt : i < size
        · rw [List.getElem_append_left (by rw [hz]; exact hlt)]
          congr 1
          exact (Nat.mod_eq_of_lt hlt).symm
        · rw [List.getElem_append_right (by rw [hz]; omega)]
          have e : (i - z.length) % size = i % size := by
            rw [hz]
            conv => rhs; rw [show i = (i - size) + size by omega, Nat.add_mod_right]
          rw [ih]
          congr 1
    rw [key]
    have hm : i % size < z.length := by rw [hz]; exact Nat.mod_lt _ hs
    simp [madeCells, hz, List.getElem?_eq_getElem hm]
theorem wl_makeN (hg : o.guard = none) (hF : Fr N a l) (ho : o.op = .makeSlice t x y) {d : Nat} (hd : o.dst = some d) (hN : Nat.blt d N = true) {bytes : Nat} (hT : ElemT P t e size bytes) {kl kc : IntKind} {m m' : Int} {n : Nat} (hx : a.eval x = .int kl m) (hy : a.eval y = .int kc m') (hm : m = (n : Int)) (hm' : m' = (n : Int))
    (hb : bytes * n ≤ 281474976710656) (hn : n ≤ maxLen) (z0 : α) {u : Value} (hz : (P.info? e).bind (·.zero) = some u) (hu : u.cells = (enc z0).toArray) (hl : (enc z0).length = size) (hS : St W s w)
    (h : ∀ b a' w', Fr N a' ((d, .slice (some ⟨b, 0, none⟩) n n) :: l) → St W (rowA enc size e (.slice (some ⟨b, 0, none⟩) n n) (List.replicate n z0) :: s) w' → wpList P ops Q rest a' w') : wpList P ops Q (o :: rest) a w := by
  obtain ⟨i0, zz, hi0, hz0, k1, k2, k3⟩ := hT.info
  refine wpList_make_full w hg x y t ho w.heap.size e i0 zz size hT.ht hi0 hz0 k1 kl kc m m' n hx hy hm hm' (by rw [k2]; exact hb) hn (Nat.le_refl _) fun w' ho' hgr => ?_
  rw [hd]
  refine h _ _ _ (hF.put (Nat.le_of_ble_eq_true hN) _) ?_
  obtain rfl : zz = u := by rw [hi0] at hz; simpa [hz0] using hz
  have hc : (madeCells zz.cells (n * size)).toList = (List.replicate n z0).flatMap enc := by
    rw [hu, made_flat _ _ _ hl hT.pos, List.flatMap, List.map_replicate]
  rw [hc] at ho'
  refine hS.add (ns := [_]) (St.ofRow (B1 := w'.heap.size) (RowO.mk (by rw [List.length_replicate]; exact ho') (fun g hg => (ho'.lt g hg).2)) ⟨hgr.os, hgr.tape, hgr.output, hgr.size, fun k hk => hgr.block k hk (by simp)⟩)
theorem flat_setF (he : ∀ x, (enc x).length = size) (xs : List α) (j fo : Nat) (hj : j < xs.length) (hf : fo < size) (v : Value) (z : α) (hz : enc z = (enc xs[j]).set fo v) : (xs.flatMap enc).set (j * size + fo) v = (xs.set j z).flatMap enc := by
  have hA : ((xs.take j).flatMap enc).length = j * size := by rw [flat_len enc size he, List.length_take, Nat.min_eq_left (Nat.le_of_lt hj)]
  have e1 : xs = xs.take j ++ xs[j] :: xs.drop (j + 1) := by rw [← List.drop_eq_getElem_cons hj, List.take_append_drop]
  have e2 : xs.set j z = xs.take j ++ z :: xs.drop (j + 1) := by rw [List.set_eq_take_append_cons_drop, if_pos hj]
  rw [e2]
  conv => lhs; rw [e1]
  rw [List.flatMap_append, List.flatMap_append, List.flatMap_cons, List.flatMap_cons, List.set_append_right _ _ (by rw [hA]; omega), hA, show j * size + fo - j * size = fo by omega, List.set_append_left _ _ (by rw [he]; exact hf), hz]
theorem St.putF (he : ∀ x, (enc x).length = size) (h : St W s w) (i : Nat) {g n cap : Nat} {xs : List α} (hi : s[i]? = some (rowA enc size e (.slice (some ⟨g, 0, none⟩) n cap) xs)) {j fo : Nat} (hj : j < xs.length) (hf : fo < size) (v : Value) (z : α) (hz : enc z = (enc xs[j]).set fo v) :
    St W (s.set i (rowA enc size e (.slice (some ⟨g, 0, none⟩) n cap) (xs.set j z))) (w.setCell ⟨g, j * size + fo, none⟩ v) := by
  obtain ⟨g', e1, rfl, hb, ho, hlt⟩ := h.rowOpen i hi (by omega)
  simp only [Option.some.injEq, Addr.mk.injEq, and_true] at e1
  subst e1
  obtain ⟨h1, h2⟩ := ho.stored (j * size + fo) v
  rw [flat_setF he xs j fo hj hf v z hz] at h1
  refine h.mutRow i hi (B := W.heap.size) ⟨_, cap, by rw [List.length_set], .inr (by rw [List.length_set]; exact h1), fun g' hg' => ?_⟩ (by rw [hb]; exact h2) fun g' hg' => .inl hg'
  rw [hb] at hg'
  obtain rfl := Option.some.inj hg'
  exact Nat.lt_of_lt_of_le hlt h2.size
/-- A field of an element is written. -/
theorem wl_storeEF (he : ∀ x, (enc x).length = size) (hg : o.guard = none) {t : TypeId} {x y : Operand} (ho : o.op = .store t x y) (hd : o.dst = none) {g n cap j fo : Nat} {v : Value} (hx : a.eval x = .pointer (some ⟨g, 0 + j * size + fo, none⟩)) (hy : a.eval y = v) (hs : scalar? P t = true) (hS : St W s w) (i : Nat) {xs : List α}
    (hi : s[i]? = some (rowA enc size e (.slice (some ⟨g, 0, none⟩) n cap) xs)) (hj : j < xs.length) (hf : fo < size) (z : α) (hz : enc z = (enc xs[j]).set fo v) (hv : v.oneCell' = true)
    (h : ∀ w', St W (s.set i (rowA enc size e (.slice (some ⟨g, 0, none⟩) n cap) (xs.set j z))) w' → wpList P ops Q rest a w') : wpList P ops Q (o :: rest) a w := by
  obtain ⟨g', e1, rfl, hb, hw, hlt⟩ := hS.rowOpen i hi (by omega)
  simp only [Option.some.injEq, Addr.mk.injEq, and_true] at e1
  subst e1
  rw [Nat.zero_add] at hx
  have hc := hS.elem he i hi (List.getElem?_eq_getElem hj)
  rw [Nat.zero_add] at hc
  have hc0 := hc fo _ (List.getElem?_eq_getElem (by rw [he]; exact hf))
  exact wl_store1 hg ho hd hx hy hs hc0 (hw.frozenAt (j * size + fo)) hv (h _ (hS.putF he i hi hj hf v z hz))
end
/-! ### The orders of a region come together -/
def OnN (R : Act → World → Prop) : Exit → Act → World → Prop
  | .normal, a, w => R a w
  | _, _, _ => False
theorem on_mk {R : Act → World → Prop} {a : Act} {w : World} (h : R a w) : OnN R .normal a w := h
theorem wp_join {P : Program} {c : Code} {R : Act → World → Prop} {Q : Exit → Act → World → Prop} {a : Act} {w : World} (h : c.wp P (OnN R) a w) (k : ∀ a w, R a w → Q .normal a w) : c.wp P Q a w :=
  wp_mono h fun e a w hq => by
    cases e with
    | normal => exact k a w hq
    | _ => exact hq.elim
end Go.Proofs.Ytfijfjjleelphaa

/- Sets of disks: read, owned, apart. -/
namespace Go.Proofs.Ytfijfjjleelphaa
open Go.RowKit

structure RaidD where
  fDisks : List DiskD
def RaidD.Reads (w : World) (v : Value) (x : RaidD) : Prop := ∃ (a : Option Addr) (c : Nat) (ps : List HD), v = .agg #[.slice a ps.length c] ∧ dsOf ps = x.fDisks ∧ Rd HD.cells 3 w a ps.length ps ∧ ∀ k, k < ps.length → (ps.getD k default).reads w
theorem RaidD.Reads.below {w w' : World} {v : Value} {x : RaidD} (h : RaidD.Reads w v x) (hb : Below w.heap.size w w') : RaidD.Reads w' v x := by
  obtain ⟨a, c, ps, e, hx, hr, hp⟩ := h
  exact ⟨a, c, ps, e, hx, hr.below hb, fun k hk => (hp k hk).below hb⟩
/-- The slices of a disk, of a set of disks. -/
def HD.vs (p : HD) : List Value := [.slice p.a0 p.d.fCells.length p.c0, .slice p.a1 p.d.fWaits.length p.c1]
def vsOf (a : Option Addr) (c : Nat) (ps : List HD) : List Value := .slice a ps.length c :: ps.flatMap HD.vs
def HD.own (w : World) (B B1 : Nat) (p : HD) : Prop := RowO encS 1 9 w B B1 (.slice p.a0 p.d.fCells.length p.c0) p.d.fCells ∧ RowO WaitD.cells 2 144 w B B1 (.slice p.a1 p.d.fWaits.length p.c1) p.d.fWaits
def RaidD.Own (w : World) (B B1 : Nat) (v : Value) (x : RaidD) : Prop := ∃ (a : Option Addr) (c : Nat) (ps : List HD), v = .agg #[.slice a ps.length c] ∧ dsOf ps = x.fDisks ∧ RowO HD.cells 3 44 w B B1 (.slice a ps.length c) ps ∧ (∀ p, p ∈ ps → p.own w B B1) ∧ (vsOf a c ps).Pairwise Apart
theorem RaidD.Own.loc (w w' : World) (B B1 : Nat) (v : Value) (x : RaidD) (hb : ∀ b, B ≤ b → b < B1 → w'.heap[b]? = w.heap[b]?) (h : RaidD.Own w B B1 v x) : RaidD.Own w' B B1 v x := by
  obtain ⟨a, c, ps, e, hx, hr, hp, ha⟩ := h
  exact ⟨a, c, ps, e, hx, hr.loc hb, fun p hm => ⟨(hp p hm).1.loc hb, (hp p hm).2.loc hb⟩, ha⟩
theorem RaidD.Own.cells {w : World} {B B1 : Nat} {v : Value} {x : RaidD} (h : RaidD.Own w B B1 v x) : Cells 1 v := by
  obtain ⟨a, c, ps, rfl, _⟩ := h
  exact cells_lit [_] rfl rfl
theorem RaidD.Own.rd {w : World} {B B1 : Nat} {v : Value} {x : RaidD} (h : RaidD.Own w B B1 v x) : RaidD.Reads w v x := by
  obtain ⟨a, c, ps, e, hx, hr, hp, ha⟩ := h
  refine ⟨a, c, ps, e, hx, ?_, fun k hk => ?_⟩
  · obtain ⟨u, e0, k0, d0⟩ := hr.rd HD.cells_len
    simp only [Value.slice.injEq, true_and] at k0
    obtain ⟨rfl, rfl⟩ := k0
    exact d0
  · rw [getD_get hk]
    obtain ⟨h1, h2⟩ := hp _ (List.getElem_mem hk)
    obtain ⟨u, e0, k0, d0⟩ := h1.rd encS_len
    simp only [Value.slice.injEq, true_and] at k0
    obtain ⟨rfl, rfl⟩ := k0
    obtain ⟨u, e0, k0, d1⟩ := h2.rd WaitD.cells_len
    simp only [Value.slice.injEq, true_and] at k0
    obtain ⟨rfl, rfl⟩ := k0
    exact ⟨d0, d1⟩
def blk (v : Value) : List Nat := (Value.rowBlock v).toList
theorem sep_hds {w : World} : ∀ {ps : List HD} {f : List Nat}, sepP (ps.map HD.asr) w f → f = (ps.flatMap HD.vs).flatMap blk ∧ ∀ p, p ∈ ps → ∃ B1, p.own w 0 B1
  | [], f, h => ⟨h, fun _ h => by cases h⟩
  | p :: ps, f, h => by
    obtain ⟨f1, f2, rfl, ⟨g1, g2, rfl, ⟨e1, B1, r1⟩, ⟨g3, g4, rfl, ⟨e3, B3, r3⟩, e4⟩⟩, h2⟩ := h
    obtain ⟨e2, h3⟩ := sep_hds h2
    refine ⟨?_, fun q hq => ?_⟩
    · have e4 : g4 = [] := e4
      rw [e1, e2, e3, e4]
      simp [HD.vs, blk]
    · rcases List.mem_cons.1 hq with rfl | hq
      · exact ⟨max B1 B3, r1.mono (Nat.le_refl _) (by omega), r3.mono (Nat.le_refl _) (by omega)⟩
      · exact h3 q hq
/-- What lies apart is owned. -/
theorem own_of_sep {w : World} {C C1 : Nat} {a : Option Addr} {c : Nat} {ps : List HD} {x : RaidD} (hx : dsOf ps = x.fDisks) {f : List Nat} (h : sepP [rowA HD.cells 3 44 (.slice a ps.length c) ps, sepA (ps.map HD.asr)] w f) (hn : f.Nodup) (hb : ∀ b, b ∈ f → C ≤ b ∧ b < C1) : RaidD.Own w C C1 (.agg #[.slice a ps.length c]) x := by
  obtain ⟨f1, f2, rfl, ⟨e1, B1, r1⟩, ⟨g1, g2, rfl, h1, h2⟩⟩ := h
  obtain rfl : g2 = [] := h2
  obtain ⟨e2, h3⟩ := sep_hds h1
  have ef : f1 ++ (g1 ++ []) = (vsOf a c ps).flatMap blk := by rw [e1, e2, List.append_nil]; rfl
  rw [ef] at hn hb
  have hm : ∀ v, v ∈ vsOf a c ps → ∀ g, Value.rowBlock v = some g → C ≤ g ∧ g < C1 := fun v hv g hg => hb g (List.mem_flatMap.2 ⟨v, hv, by simp [blk, hg]⟩)
  refine ⟨a, c, ps, rfl, hx, r1.bounds (hm _ (List.mem_cons_self ..)), fun p hp => ?_, nodup_apart hn⟩
  obtain ⟨B2, o1, o2⟩ := h3 p hp
  have hmem : ∀ v, v ∈ p.vs → v ∈ vsOf a c ps := fun v hv => List.mem_cons_of_mem _ (List.mem_flatMap.2 ⟨p, hp, hv⟩)
  exact ⟨o1.bounds (hm _ (hmem _ (by simp [HD.vs]))), o2.bounds (hm _ (hmem _ (by simp [HD.vs])))⟩
theorem RaidD.st_own {W w : World} {F : List Asr} {a : Option Addr} {c : Nat} {ps : List HD} {x : RaidD} (h : St W (rowA HD.cells 3 44 (.slice a ps.length c) ps :: sepA (ps.map HD.asr) :: F) w) (hx : dsOf ps = x.fDisks) : RaidD.Own w W.heap.size w.heap.size (.agg #[.slice a ps.length c]) x := by
  obtain ⟨f, hs, hn, hb⟩ := h.sep
  obtain ⟨f1, f2, rfl, k1, k2⟩ := (sepP_append [_, _] F w f).1 hs
  exact own_of_sep hx k1 (List.nodup_append.1 hn).1 (fun b hm => hb b (List.mem_append_left _ hm))
theorem sep_of_hds {w : World} {B B1 : Nat} : ∀ {ps : List HD}, (∀ p, p ∈ ps → p.own w B B1) → sepP (ps.map HD.asr) w ((ps.flatMap HD.vs).flatMap blk)
  | [], _ => rfl
  | p :: ps, h => by
    obtain ⟨o1, o2⟩ := h p (List.mem_cons_self ..)
    refine ⟨blk (.slice p.a0 p.d.fCells.length p.c0) ++ (blk (.slice p.a1 p.d.fWaits.length p.c1) ++ []), (ps.flatMap HD.vs).flatMap blk, by simp [HD.vs], ⟨_, _, rfl, o1.asr, ⟨_, _, rfl, o2.asr, rfl⟩⟩, sep_of_hds (fun q hq => h q (List.mem_cons_of_mem _ hq))⟩
/-- What is owned lies apart; its blocks are in the stretch. -/
theorem sep_of_own {w : World} {B B1 : Nat} {v : Value} {x : RaidD} (h : RaidD.Own w B B1 v x) : ∃ (a : Option Addr) (c : Nat) (ps : List HD), v = .agg #[.slice a ps.length c] ∧ dsOf ps = x.fDisks ∧ sepP [rowA HD.cells 3 44 (.slice a ps.length c) ps, sepA (ps.map HD.asr)] w ((vsOf a c ps).flatMap blk) ∧ ((vsOf a c ps).flatMap blk).Nodup ∧ ∀ b, b ∈ (vsOf a c ps).flatMap blk → B ≤ b ∧ b < B1 ∧ b < w.heap.size := by
  obtain ⟨a, c, ps, e, hx, hr, hp, ha⟩ := h
  refine ⟨a, c, ps, e, hx, ⟨_, _, rfl, hr.asr, ⟨_, _, (List.append_nil _).symm, sep_of_hds hp, rfl⟩⟩, apart_nodup ha, fun b hm => ?_⟩
  obtain ⟨v, hv, hb⟩ := List.mem_flatMap.1 hm
  rcases List.mem_cons.1 hv with rfl | hv
  · exact hr.foot b hb
  · obtain ⟨p, hpm, hv⟩ := List.mem_flatMap.1 hv
    obtain ⟨o1, o2⟩ := hp p hpm
    simp only [HD.vs, List.mem_cons, List.not_mem_nil, or_false] at hv
    rcases hv with rfl | rfl
    · exact o1.foot b hb
    · exact o2.foot b hb
/-- Blocks that lie as they lay. -/
def keepA (w0 : World) (L : List Nat) : Asr := ⟨fun w f => f = L ∧ w0.heap.size ≤ w.heap.size ∧ ∀ b, b ∈ L → w.heap[b]? = w0.heap[b]?, fun w w' f hs hb ⟨e, h1, h2⟩ => ⟨e, Nat.le_trans h1 hs, fun b hm => (hb b (by rw [e]; exact hm)).trans (h2 b hm)⟩⟩
/-- The world below a block. -/
def trunc (w : World) (B : Nat) : World := { w with heap := w.heap.extract 0 B }
theorem trunc_size (w : World) (B : Nat) (h : B ≤ w.heap.size) : (trunc w B).heap.size = B := by simp [trunc]; omega
theorem trunc_below (w : World) (B : Nat) (h : B ≤ w.heap.size) : Below (trunc w B).heap.size (trunc w B) w := by
  have hz := trunc_size w B h
  refine ⟨rfl, rfl, rfl, by omega, fun k hk => ?_⟩
  rw [hz] at hk
  simp [trunc, Array.getElem?_extract, hk]
  intro _; omega
/-- To write into what is owned: what lies outside is kept. -/
theorem RaidD.own_st {w : World} {B B1 : Nat} {v : Value} {x : RaidD} (h : RaidD.Own w B B1 v x) (hB : B ≤ B1) (hB1 : B1 ≤ w.heap.size) : ∃ (a : Option Addr) (c : Nat) (ps : List HD), v = .agg #[.slice a ps.length c] ∧ dsOf ps = x.fDisks ∧ (∀ b, b ∈ (vsOf a c ps).flatMap blk → B ≤ b ∧ b < B1) ∧
    St (trunc w B) [rowA HD.cells 3 44 (.slice a ps.length c) ps, sepA (ps.map HD.asr), keepA w (List.range' B1 (w.heap.size - B1))] w := by
  obtain ⟨a, c, ps, e, hx, hs, hn, hb⟩ := sep_of_own h
  have hz := trunc_size w B (by omega)
  refine ⟨a, c, ps, e, hx, fun b hm => ⟨(hb b hm).1, (hb b hm).2.1⟩, trunc_below w B (by omega), (vsOf a c ps).flatMap blk ++ List.range' B1 (w.heap.size - B1), (sepP_append [_, _] [_] w _).2 ⟨_, _, rfl, hs, ⟨_, [], (List.append_nil _).symm, ⟨rfl, Nat.le_refl _, fun _ _ => rfl⟩, rfl⟩⟩, ?_, fun b hm => ?_⟩
  · rw [List.nodup_append]
    refine ⟨hn, List.nodup_range', fun u hu y hy e => ?_⟩
    subst e
    have := hb u hu
    rw [List.mem_range'_1] at hy
    omega
  · rw [hz]
    rcases List.mem_append.1 hm with hm | hm
    · have := hb b hm; omega
    · rw [List.mem_range'_1] at hm; omega
theorem RaidD.st_own2 {w w' : World} {B B1 : Nat} {a : Option Addr} {c : Nat} {ps qs : List HD} {x : RaidD} (hB : B ≤ B1) (hB1 : B1 ≤ w.heap.size) (hx : dsOf qs = x.fDisks) (hq : vsOf a c qs = vsOf a c ps) (hb : ∀ b, b ∈ (vsOf a c ps).flatMap blk → B ≤ b ∧ b < B1)
    (h : St (trunc w B) [rowA HD.cells 3 44 (.slice a qs.length c) qs, sepA (qs.map HD.asr), keepA w (List.range' B1 (w.heap.size - B1))] w') : RaidD.Own w' B B1 (.agg #[.slice a qs.length c]) x ∧ Outside B B1 w w' := by
  have hz := trunc_size w B (by omega)
  obtain ⟨f, hs, hn, hb2⟩ := h.sep
  obtain ⟨f1, f2, rfl, k1, k2⟩ := (sepP_append [_, _] [_] w' f).1 hs
  have hk1 := k1
  obtain ⟨g1, g2, rfl, ⟨e1, _⟩, ⟨g3, g4, rfl, h3, h4⟩⟩ := hk1
  obtain rfl : g4 = [] := h4
  obtain ⟨e2, _⟩ := sep_hds h3
  have ef : g1 ++ (g3 ++ []) = (vsOf a c ps).flatMap blk := by rw [← hq, e1, e2, List.append_nil]; rfl
  refine ⟨own_of_sep hx k1 (List.nodup_append.1 hn).1 (fun b hm => hb b (by rw [← ef]; exact hm)), ?_⟩
  obtain ⟨g5, g6, rfl, ⟨rfl, k3, k4⟩, _⟩ := k2
  have hbel := trunc_below w B (by omega)
  refine ⟨h.bel.os.trans hbel.os.symm, h.bel.tape.trans hbel.tape.symm, h.bel.output.trans hbel.output.symm, k3, fun k hk ho => ?_⟩
  rcases ho with ho | ho
  · exact (h.bel.block k (by omega)).trans (hbel.block k (by omega)).symm
  · exact k4 k (List.mem_range'_1.2 ⟨ho, by omega⟩)
end Go.Proofs.Ytfijfjjleelphaa

/- The laws' helpers over sets of disks. -/
namespace Go.Proofs.Ytfijfjjleelphaa
open Go.RowKit

def RaidD.bulk (x : RaidD) : Nat := x.fDisks.length + tot DiskD.bulk x.fDisks
structure RaidD.Small (x : RaidD) : Prop where
  n : x.fDisks.length ≤ 9223372036854775807
  d : ∀ k, (x.fDisks.getD k default).Small
def lenT (d : DiskD) : Nat := d.fCells.length + d.fWaits.length
structure RaidD.Fit (x : RaidD) : Prop where
  n : x.fDisks.length ≤ 1048576
  t : tot lenT x.fDisks ≤ 10000000
  d : ∀ k, (x.fDisks.getD k default).Fit
theorem tot_get {ds : List DiskD} (f : DiskD → Nat) (k : Nat) (hk : k < ds.length) : tot f (ds.take (k + 1)) = tot f (ds.take k) + f (ds.getD k default) := by
  exact tot_take f ds k (by rw [List.getElem?_eq_getElem hk, getD_get hk])
theorem lenT_le (d : DiskD) : lenT d ≤ d.bulk := by unfold lenT DiskD.bulk; omega
theorem tot_mono {f g : DiskD → Nat} (h : ∀ d, f d ≤ g d) : ∀ ds : List DiskD, tot f ds ≤ tot g ds
  | [] => Nat.le_refl _
  | d :: ds => by have := tot_mono h ds; have := h d; simp only [tot]; omega
theorem tot_one (f : DiskD → Nat) (h0 : f default = 0) (ds : List DiskD) (k : Nat) : f (ds.getD k default) ≤ tot f ds := by
  by_cases hk : k < ds.length
  · exact tot_le f ds k (by rw [List.getElem?_eq_getElem hk, getD_get hk])
  · rw [List.getD_eq_getElem?_getD, List.getElem?_eq_none (by omega)]; simp [h0]
theorem RaidD.fit {x : RaidD} (h : x.bulk ≤ 1048576) : x.Fit := by
  unfold RaidD.bulk at h
  have h1 := tot_mono lenT_le x.fDisks
  exact ⟨by omega, by omega, fun k => DiskD.fit (Nat.le_trans (tot_one DiskD.bulk rfl x.fDisks k) (by omega))⟩

set_option maxHeartbeats 1000000 in
set_option maxRecDepth 100000 in
theorem szDiskS_any (a0 : Option Addr) (c0 : Nat) (ps : List HD) (l : Int) (w0 : World) (hl0 : 0 ≤ l) (hl1 : l ≤ 1048576) (hn : ps.length ≤ 9223372036854775807) (hs : ∀ k, (ps.getD k default).d.Small) (hR : Rd HD.cells 3 w0 a0 ps.length ps) (hP : ∀ k, k < ps.length → (ps.getD k default).reads w0) : Calls Try.prog 104 #[.slice a0 ps.length c0, .int .i64 l] w0 fun e w' => e = .returned (.int .i64 (leftOf l (ps.length + tot DiskD.bulk (dsOf ps)))) ∧ Below w0.heap.size w0 w' := by
  have HR := Bx.mk hR; have HP := Bx.mk hP; clear hR hP
  have HS := Bx.mk (St.start w0)
  refine wc_enter Try.func104 rfl Try.ntmps104 [(0, .slice a0 ps.length c0), (1, .int .i64 l)] ⟨rfl, rfl, trivial⟩ rfl ?_; intro a HF
  refine wp_seq ?_
  refine wp_region_lit ?_
  refine wl_y rfl HF rfl rfl (yl_assign rfl (HF.ev rfl)) ?_; clear HF; clear a; intro a HF
  refine wpList_nil ?_
  refine ex_then ?_
  refine wp_seq ?_
  refine wp_region_lit ?_
  refine wl_y rfl HF rfl rfl (yl_move rfl (HF.ev rfl)) ?_; clear HF; clear a; intro a HF
  refine wl_y rfl HF rfl rfl (yl_move rfl (HF.ev rfl)) ?_; clear HF; clear a; intro a HF
  refine wl_y rfl HF rfl rfl (yl_lenL (e := 168) (size := 3) rfl (HF.ev rfl) (by kernel_rfl)) ?_; clear HF; clear a; intro a HF
  refine wl_y rfl HF rfl rfl (yl_subI rfl (HF.ev rfl) (HF.ev rfl) (i64w (by omega))) ?_; clear HF; clear a; intro a HF
  refine wl_y rfl HF rfl rfl (yl_assign rfl (HF.ev rfl)) ?_; clear HF; clear a; intro a HF
  refine wpList_nil ?_
  refine ex_then ?_
  refine wp_seq ?_
  refine wp_seq ?_
  refine wp_region_lit ?_
  refine wl_y rfl HF rfl rfl (yl_move rfl (HF.ev rfl)) ?_; clear HF; clear a; intro a HF
  refine wl_y rfl HF rfl rfl (yl_lssI rfl (HF.ev rfl) (HF.ev rfl)) ?_; clear HF; clear a; intro a HF
  refine wpList_nil ?_
  refine ex_then ?_
  refine HF.cases 11 rfl (fun cc1 HF1 => ?_) (fun cc1 HF1 => ?_)
  · clear HF; have HF := HF1; clear HF1
    have dcc1 := of_decide_eq_true cc1
    refine wc_true HF rfl ?_
    refine wp_seq ?_
    refine wp_region_lit ?_
    refine wl_y rfl HF rfl rfl (yl_assign rfl (HF.ev rfl)) ?_; clear HF; clear a; intro a HF
    refine wpList_nil ?_
    refine ex_then ?_
    refine wp_ret ?_
    refine ex_then_ret ?_
    refine bp_ret1 HF Try.results104 (HF.res rfl) ?_
    exact ⟨by rw [leftOf_no (by omega)], HS.out.bel⟩
  · clear HF; have HF := HF1; clear HF1
    have dcc1 := of_decide_eq_false cc1
    refine wc_false HF rfl ?_
    refine wp_skip ?_
    refine ex_then ?_
    refine wp_seq ?_
    refine wp_seq ?_
    refine wp_region_lit ?_
    refine wl_y rfl HF rfl rfl (yl_assign rfl (HF.ev rfl)) ?_; clear HF; clear a; intro a HF
    refine wpList_nil ?_
    refine ex_then ?_
    refine wp_block ?_
    refine wc_loop (ι := Nat) (fun k a w => (k ≤ ps.length ∧ ((ps.length + tot DiskD.bulk ((dsOf ps).take k) : Nat) : Int) ≤ l) ∧ Fr 27 a [(0, .slice a0 ps.length c0), (1, .int .i64 (l - ((ps.length + tot DiskD.bulk ((dsOf ps).take k) : Nat) : Int))), (5, .int .i64 (k : Int))] ∧ St w0 ([]) w) (fun k => ps.length - k) 0 ⟨⟨Nat.zero_le _, by simp [tot]; omega⟩, HF.less _ ⟨rfl, (by show _ = some (Value.int .i64 (l - ((ps.length + tot DiskD.bulk ((dsOf ps).take 0) : Nat) : Int))); simp only [List.take_zero, tot, Nat.add_zero]; rfl), rfl, trivial⟩, HS.out⟩ ?_
    clear HF HS; clear a
    rintro k a w1 ⟨⟨hk, hcl⟩, HF, HS⟩
    replace HS := Bx.mk HS
    refine wp_seq ?_
    refine wp_seq ?_
    refine wp_region_lit ?_
    refine wl_y rfl HF rfl rfl (yl_move rfl (HF.ev rfl)) ?_; clear HF; clear a; intro a HF
    refine wl_y rfl HF rfl rfl (yl_move rfl (HF.ev rfl)) ?_; clear HF; clear a; intro a HF
    refine wl_y rfl HF rfl rfl (yl_lenL (e := 168) (size := 3) rfl (HF.ev rfl) (by kernel_rfl)) ?_; clear HF; clear a; intro a HF
    refine wl_y rfl HF rfl rfl (yl_lssI rfl (HF.ev rfl) (HF.ev rfl)) ?_; clear HF; clear a; intro a HF
    refine wpList_nil ?_
    refine ex_then ?_
    refine HF.cases 15 rfl (fun cc2 HF1 => ?_) (fun cc2 HF1 => ?_)
    · clear HF; have HF := HF1; clear HF1
      have dcc2 := of_decide_eq_true cc2
      refine wc_true HF rfl ?_
      refine wp_skip ?_
      refine ex_then ?_
      refine wp_seq ?_
      refine wp_block ?_
      refine wp_seq ?_
      obtain ⟨g_r, o_r, r0⟩ := HR.out.opn; have R_r := Bx.mk r0; clear r0
      refine wp_region_lit ?_
      refine wl_y rfl HF rfl rfl (yl_move rfl (HF.ev rfl)) ?_; clear HF; clear a; intro a HF
      refine wl_y rfl HF rfl rfl (yl_move rfl (HF.ev rfl)) ?_; clear HF; clear a; intro a HF
      refine wl_y rfl HF rfl rfl (yl_indexAddrR (e := 168) (i := k) (size := 3) rfl (HF.ev rfl) (HF.ev rfl) (by kernel_rfl) rfl (by omega) (R_r.out.ao k (by omega))) ?_; clear HF; clear a; intro a HF
      refine wl_y rfl HF rfl rfl (yl_loadR (cs := [.slice ((ps.getD k default).a0) ((ps.getD k default).d.fCells.length) ((ps.getD k default).c0), .slice ((ps.getD k default).a1) ((ps.getD k default).d.fWaits.length) ((ps.getD k default).c1), .bool ((ps.getD k default).d.fGone)]) rfl (HF.ev rfl) (R_r.out.elem HS.out (get_getD (xs := ps) (j := k) (d := default) (by omega))) (by kernel_rfl)) ?_; clear HF; clear a; intro a HF
      refine wl_y rfl HF rfl rfl (yl_move rfl (HF.ev rfl)) ?_; clear HF; clear a; intro a HF
      refine wl_callB rfl HF rfl (enter_of Try.func153 (by kernel_rfl) rfl) (args := #[.agg #[.slice ((ps.getD k default).a0) ((ps.getD k default).d.fCells.length) ((ps.getD k default).c0), .slice ((ps.getD k default).a1) ((ps.getD k default).d.fWaits.length) ((ps.getD k default).c1), .bool ((ps.getD k default).d.fGone)], .int .i64 (l - ((ps.length + tot DiskD.bulk ((dsOf ps).take k) : Nat) : Int))]) rfl (v := .int .i64 (leftOf (l - ((ps.length + tot DiskD.bulk ((dsOf ps).take k) : Nat) : Int)) (ps.getD k default).d.bulk)) ((by have := szDisk_any (.agg #[.slice ((ps.getD k default).a0) ((ps.getD k default).d.fCells.length) ((ps.getD k default).c0), .slice ((ps.getD k default).a1) ((ps.getD k default).d.fWaits.length) ((ps.getD k default).c1), .bool ((ps.getD k default).d.fGone)]) (ps.getD k default).d (l - ((ps.length + tot DiskD.bulk ((dsOf ps).take k) : Nat) : Int)) _ (by omega) (by omega) ⟨_, _, _, _, rfl, ((HP.out k (by omega)).below HS.out.bel).rc, ((HP.out k (by omega)).below HS.out.bel).rw⟩ (hs k); exact this)) rfl rfl HS.out ?_; clear HF HS; clear a; intro w2 a HS HF; replace HS := Bx.mk HS
      refine wl_y rfl HF rfl rfl (yl_assign rfl (HF.ev rfl)) ?_; clear HF; clear a; intro a HF
      refine wpList_nil ?_
      refine ex_then ?_
      refine wp_seq ?_
      refine wp_region_lit ?_
      refine wl_y rfl HF rfl rfl (yl_move rfl (HF.ev rfl)) ?_; clear HF; clear a; intro a HF
      refine wl_y rfl HF rfl rfl (yl_lssI rfl (HF.ev rfl) (HF.ev rfl)) ?_; clear HF; clear a; intro a HF
      refine wpList_nil ?_
      refine ex_then ?_
      refine HF.cases 25 rfl (fun cc3 HF1 => ?_) (fun cc3 HF1 => ?_)
      · clear HF; have HF := HF1; clear HF1
        have dcc3 := of_decide_eq_true cc3
        refine wc_true HF rfl ?_
        refine wp_seq ?_
        refine wp_region_lit ?_
        refine wl_y rfl HF rfl rfl (yl_assign rfl (HF.ev rfl)) ?_; clear HF; clear a; intro a HF
        refine wpList_nil ?_
        refine ex_then ?_
        refine wp_ret ?_
        refine ex_block_ret ?_
        refine ex_then_ret ?_
        refine ex_then_ret ?_
        refine ex_block_ret ?_
        refine ex_then_ret ?_
        refine bp_ret1 HF Try.results104 (HF.res rfl) ?_
        have htk := tot_get DiskD.bulk (ds := dsOf ps) k (by rw [dsOf_len]; omega); rw [dsOf_get] at htk
        have hle := tot_take_le DiskD.bulk (dsOf ps) (k + 1)
        have hno : l < ((ps.length + tot DiskD.bulk (dsOf ps) : Nat) : Int) := by have h9 := dcc3; unfold leftOf at h9; split at h9 <;> omega
        exact ⟨by rw [leftOf_no hno], HS.out.bel⟩
      · clear HF; have HF := HF1; clear HF1
        have dcc3 := of_decide_eq_false cc3
        refine wc_false HF rfl ?_
        refine wp_skip ?_
        refine ex_block ?_
        refine ex_then ?_
        refine wp_region_lit ?_
        refine wl_y rfl HF rfl rfl (yl_move rfl (HF.ev rfl)) ?_; clear HF; clear a; intro a HF
        refine wl_y rfl HF rfl rfl (yl_addI rfl (HF.ev rfl) (HF.ev rfl) (i64w (by omega))) ?_; clear HF; clear a; intro a HF
        refine wl_y rfl HF rfl rfl (yl_assign rfl (HF.ev rfl)) ?_; clear HF; clear a; intro a HF
        refine wpList_nil ?_
        refine ex_then ?_
        have htk := tot_get DiskD.bulk (ds := dsOf ps) k (by rw [dsOf_len]; omega); rw [dsOf_get] at htk
        have hfit : (((ps.getD k default).d.bulk : Nat) : Int) ≤ l - ((ps.length + tot DiskD.bulk ((dsOf ps).take k) : Nat) : Int) := by have h9 := dcc3; unfold leftOf at h9; split at h9 <;> omega
        have hlf : leftOf (l - ((ps.length + tot DiskD.bulk ((dsOf ps).take k) : Nat) : Int)) (ps.getD k default).d.bulk = l - ((ps.length + tot DiskD.bulk ((dsOf ps).take (k + 1)) : Nat) : Int) := by rw [leftOf_yes hfit, htk]; omega
        rw [hlf] at HF
        exact ⟨k + 1, ⟨⟨by omega, by omega⟩, HF.less _ ⟨rfl, rfl, rfl, trivial⟩, HS.out⟩, (by omega)⟩
    · clear HF; have HF := HF1; clear HF1
      have dcc2 := of_decide_eq_false cc2
      refine wc_false HF rfl ?_
      refine wp_exit ?_
      refine ex_then_exit ?_
      refine ex_then_exit ?_
      refine ex_block_hit ?_
      refine ex_then ?_
      refine wp_seq ?_
      refine wp_region_lit ?_
      refine wl_y rfl HF rfl rfl (yl_move rfl (HF.ev rfl)) ?_; clear HF; clear a; intro a HF
      refine wl_y rfl HF rfl rfl (yl_assign rfl (HF.ev rfl)) ?_; clear HF; clear a; intro a HF
      refine wpList_nil ?_
      refine ex_then ?_
      refine wp_ret ?_
      refine bp_ret1 HF Try.results104 (HF.res rfl) ?_
      obtain rfl : k = ps.length := by omega
      rw [List.take_of_length_le (by rw [dsOf_len]; exact Nat.le_refl _)] at hcl HF
      exact ⟨by rw [leftOf_yes hcl, List.take_of_length_le (by rw [dsOf_len]; exact Nat.le_refl _)], HS.out.bel⟩

set_option maxHeartbeats 1000000 in
set_option maxRecDepth 100000 in
theorem szRaid_x (a0 : Option Addr) (c0 : Nat) (ps : List HD) (l : Int) (w0 : World) (hl0 : 0 ≤ l) (hl1 : l ≤ 1048576) (hn : ps.length ≤ 9223372036854775807) (hs : ∀ k, (ps.getD k default).d.Small) (hR : Rd HD.cells 3 w0 a0 ps.length ps) (hP : ∀ k, k < ps.length → (ps.getD k default).reads w0) : Calls Try.prog 34 #[.agg #[.slice a0 ps.length c0], .int .i64 l] w0 fun e w' => e = .returned (.int .i64 (leftOf l (ps.length + tot DiskD.bulk (dsOf ps)))) ∧ Below w0.heap.size w0 w' := by
  have HR := Bx.mk hR; have HP := Bx.mk hP; clear hR hP
  have HS := Bx.mk (St.start w0)
  refine wc_enter Try.func34 rfl Try.ntmps34 [(0, .agg #[.slice a0 ps.length c0]), (1, .int .i64 l)] ⟨rfl, rfl, trivial⟩ rfl ?_; intro a HF
  refine wp_seq ?_
  refine wp_region_lit ?_
  refine wl_box rfl HF rfl (HF.ev rfl) (Z := [.slice a0 ps.length c0]) rfl rfl rfl rfl HS.out ?_; clear HF HS; clear a; intro a w1 b1 HF HS; replace HS := Bx.mk HS
  refine wl_y rfl HF rfl rfl (yl_assign rfl (HF.ev rfl)) ?_; clear HF; clear a; intro a HF
  refine wpList_nil ?_
  refine ex_then ?_
  refine wp_seq ?_
  refine wp_region_lit ?_
  refine wl_y rfl HF rfl rfl (yl_fieldAddr (j := 0) rfl (HF.ev rfl) (by kernel_rfl)) ?_; clear HF; clear a; intro a HF
  refine wl_y rfl HF rfl rfl (yl_load (v := .slice a0 ps.length c0) rfl (HF.ev rfl) (((HS.out.box 0 rfl).cell 0).trans rfl) (by kernel_rfl)) ?_; clear HF; clear a; intro a HF
  refine wl_y rfl HF rfl rfl (yl_move rfl (HF.ev rfl)) ?_; clear HF; clear a; intro a HF
  refine wl_callB rfl HF rfl (enter_of Try.func104 (by kernel_rfl) rfl) (args := #[.slice a0 ps.length c0, .int .i64 l]) rfl (v := .int .i64 (leftOf l (ps.length + tot DiskD.bulk (dsOf ps)))) (szDiskS_any a0 c0 ps l _ hl0 hl1 hn hs (HR.out.below HS.out.bel) (fun k hk => (HP.out k hk).below HS.out.bel)) rfl rfl HS.out ?_; clear HF HS; clear a; intro w2 a HS HF; replace HS := Bx.mk HS
  refine wl_y rfl HF rfl rfl (yl_assign rfl (HF.ev rfl)) ?_; clear HF; clear a; intro a HF
  refine wpList_nil ?_
  refine ex_then ?_
  refine wp_seq ?_
  refine wp_seq ?_
  refine wp_region_lit ?_
  refine wl_y rfl HF rfl rfl (yl_move rfl (HF.ev rfl)) ?_; clear HF; clear a; intro a HF
  refine wl_y rfl HF rfl rfl (yl_lssI rfl (HF.ev rfl) (HF.ev rfl)) ?_; clear HF; clear a; intro a HF
  refine wpList_nil ?_
  refine ex_then ?_
  refine HF.cases 10 rfl (fun cc1 HF1 => ?_) (fun cc1 HF1 => ?_)
  · clear HF; have HF := HF1; clear HF1
    have dcc1 := of_decide_eq_true cc1
    refine wc_true HF rfl ?_
    refine wp_seq ?_
    refine wp_region_lit ?_
    refine wl_y rfl HF rfl rfl (yl_assign rfl (HF.ev rfl)) ?_; clear HF; clear a; intro a HF
    refine wpList_nil ?_
    refine ex_then ?_
    refine wp_ret ?_
    refine ex_then_ret ?_
    refine bp_ret1 HF Try.results34 (HF.res rfl) ?_
    exact ⟨by have h9 := dcc1; unfold leftOf at h9 ⊢; split at h9 <;> first | omega | (rename_i h8; rw [if_pos h8]), HS.out.bel⟩
  · clear HF; have HF := HF1; clear HF1
    have dcc1 := of_decide_eq_false cc1
    refine wc_false HF rfl ?_
    refine wp_skip ?_
    refine ex_then ?_
    refine wp_seq ?_
    refine wp_region_lit ?_
    refine wl_y rfl HF rfl rfl (yl_move rfl (HF.ev rfl)) ?_; clear HF; clear a; intro a HF
    refine wl_y rfl HF rfl rfl (yl_assign rfl (HF.ev rfl)) ?_; clear HF; clear a; intro a HF
    refine wpList_nil ?_
    refine ex_then ?_
    refine wp_ret ?_
    refine bp_ret1 HF Try.results34 (HF.res rfl) ?_
    exact ⟨rfl, HS.out.bel⟩

theorem szRaid_any (v : Value) (x : RaidD) (l : Int) (w : World) (hl0 : 0 ≤ l) (hl1 : l ≤ 1048576) (hr : RaidD.Reads w v x) (hs : x.Small) : Calls Try.prog 34 #[v, .int .i64 l] w fun e w' => e = .returned (.int .i64 (leftOf l x.bulk)) ∧ Below w.heap.size w w' := by
  obtain ⟨a, c, ps, rfl, hx, hr, hp⟩ := hr
  have := szRaid_x a c ps l w hl0 hl1 (by have := hs.n; rw [← hx, dsOf_len] at this; exact this) (fun k => by rw [← dsOf_get, hx]; exact hs.d k) hr hp
  unfold RaidD.bulk
  rw [← hx, dsOf_len]
  exact this

theorem repl_set {α : Type} (qs : List α) (n : Nat) (z q : α) (hn : qs.length < n) : (qs ++ List.replicate (n - qs.length) z).set qs.length q = (qs ++ [q]) ++ List.replicate (n - (qs ++ [q]).length) z := by
  rw [List.length_append, List.length_singleton, List.set_append_right _ _ (Nat.le_refl _), Nat.sub_self, show n - qs.length = (n - (qs.length + 1)) + 1 by omega, List.replicate_succ, List.set_cons_zero, List.append_assoc]; rfl

theorem toDiskH_any (p : HD) (w0 : World) (hf : p.d.Fit) (hp : p.reads w0) : Calls Try.prog 154 #[.agg #[.slice p.a0 p.d.fCells.length p.c0, .slice p.a1 p.d.fWaits.length p.c1, .bool p.d.fGone]] w0 fun e w' => ∃ q : HD, q.d = p.d ∧ e = .returned (.agg #[.slice q.a0 q.d.fCells.length q.c0, .slice q.a1 q.d.fWaits.length q.c1, .bool q.d.fGone]) ∧ St w0 [q.asr] w' := by
  refine (toDisk_any _ p.d w0 hf ⟨_, _, _, _, rfl, hp.rc, hp.rw⟩).mono ?_
  rintro e w' ⟨v, rfl, ho, hb⟩
  obtain ⟨q, h1, rfl, h3⟩ := hd_of_own ho hb
  exact ⟨q, h1, rfl, h3⟩

set_option maxHeartbeats 1000000 in
set_option maxRecDepth 100000 in
theorem toDiskS_any (a0 : Option Addr) (c0 : Nat) (ps : List HD) (w0 : World) (hn : ps.length ≤ 1048576) (hf : ∀ k, (ps.getD k default).d.Fit) (hR : Rd HD.cells 3 w0 a0 ps.length ps) (hP : ∀ k, k < ps.length → (ps.getD k default).reads w0) : Calls Try.prog 105 #[.slice a0 ps.length c0] w0 fun e w' => ∃ ao cp qs, e = .returned (.slice ao qs.length cp) ∧ dsOf qs = dsOf ps ∧ St w0 [rowA HD.cells 3 44 (.slice ao qs.length cp) qs, sepA (qs.map HD.asr)] w' := by
  have HR := Bx.mk hR; have HP := Bx.mk hP; clear hR hP
  have HS := Bx.mk (St.start w0)
  refine wc_enter Try.func105 rfl Try.ntmps105 [(0, .slice a0 ps.length c0)] ⟨rfl, trivial⟩ rfl ?_; intro a HF
  refine wp_seq ?_
  refine wp_region_lit ?_
  refine wl_y rfl HF rfl rfl (yl_assign rfl (HF.ev rfl)) ?_; clear HF; clear a; intro a HF
  refine wpList_nil ?_
  refine ex_then ?_
  refine wp_seq ?_
  refine wp_region_lit ?_
  refine wl_y rfl HF rfl rfl (yl_move rfl (HF.ev rfl)) ?_; clear HF; clear a; intro a HF
  refine wl_y rfl HF rfl rfl (yl_lenL (e := 168) (size := 3) rfl (HF.ev rfl) (by kernel_rfl)) ?_; clear HF; clear a; intro a HF
  refine wl_makeN (enc := HD.cells) (n := ps.length) rfl HF rfl rfl rfl elemD (HF.ev rfl) (HF.ev rfl) (by omega) (by omega) (by omega) (by unfold maxLen; omega) (default : HD) (u := .agg #[.slice none 0 0, .slice none 0 0, .bool false]) (by kernel_rfl) rfl rfl HS.out ?_; clear HF HS; clear a; intro b1 a w1 HF HS; replace HS := Bx.mk HS
  refine wl_y rfl HF rfl rfl (yl_assign rfl (HF.ev rfl)) ?_; clear HF; clear a; intro a HF
  refine wpList_nil ?_
  refine ex_then ?_
  refine wp_seq ?_
  refine wp_seq ?_
  refine wp_region_lit ?_
  refine wl_y rfl HF rfl rfl (yl_assign rfl (HF.ev rfl)) ?_; clear HF; clear a; intro a HF
  refine wpList_nil ?_
  refine ex_then ?_
  refine wp_block ?_
  replace HS := Bx.mk HS.out.hdNil.swap
  refine wc_loop (ι := Nat) (fun k a w => ∃ (qs : List HD), (k ≤ ps.length ∧ qs.length = k ∧ dsOf qs = dsOf (ps.take k)) ∧ Fr 23 a [(0, .slice a0 ps.length c0), (3, .slice (some ⟨b1, 0, none⟩) ps.length ps.length), (4, .int .i64 (qs.length : Int))] ∧ St w0 ([rowA HD.cells 3 44 (.slice (some ⟨b1, 0, none⟩) ps.length ps.length) (qs ++ List.replicate (ps.length - qs.length) (default : HD)), sepA (qs.map HD.asr)]) w) (fun k => ps.length - k) 0 ⟨[], ⟨Nat.zero_le _, rfl, rfl⟩, HF.less _ ⟨rfl, rfl, rfl, trivial⟩, HS.out⟩ ?_
  clear HF HS; clear a
  rintro k a w2 ⟨qs, ⟨hk, hql, hq⟩, HF, HS⟩
  replace HS := Bx.mk HS
  have hlr : (qs ++ List.replicate (ps.length - qs.length) (default : HD)).length = ps.length := by simp; omega
  refine wp_seq ?_
  refine wp_seq ?_
  refine wp_region_lit ?_
  refine wl_y rfl HF rfl rfl (yl_move rfl (HF.ev rfl)) ?_; clear HF; clear a; intro a HF
  refine wl_y rfl HF rfl rfl (yl_move rfl (HF.ev rfl)) ?_; clear HF; clear a; intro a HF
  refine wl_y rfl HF rfl rfl (yl_lenL (e := 168) (size := 3) rfl (HF.ev rfl) (by kernel_rfl)) ?_; clear HF; clear a; intro a HF
  refine wl_y rfl HF rfl rfl (yl_lssI rfl (HF.ev rfl) (HF.ev rfl)) ?_; clear HF; clear a; intro a HF
  refine wpList_nil ?_
  refine ex_then ?_
  refine HF.cases 11 rfl (fun cc1 HF1 => ?_) (fun cc1 HF1 => ?_)
  · clear HF; have HF := HF1; clear HF1
    have dcc1 := of_decide_eq_true cc1
    refine wc_true HF rfl ?_
    refine wp_skip ?_
    refine ex_then ?_
    refine wp_seq ?_
    refine wp_block ?_
    obtain ⟨g_r, o_r, r0⟩ := HR.out.opn; have R_r := Bx.mk r0; clear r0
    refine wp_region_lit ?_
    refine wl_y rfl HF rfl rfl (yl_move rfl (HF.ev rfl)) ?_; clear HF; clear a; intro a HF
    refine wl_y rfl HF rfl rfl (yl_move rfl (HF.ev rfl)) ?_; clear HF; clear a; intro a HF
    refine wl_y rfl HF rfl rfl (yl_move rfl (HF.ev rfl)) ?_; clear HF; clear a; intro a HF
    refine wl_y rfl HF rfl rfl (yl_move rfl (HF.ev rfl)) ?_; clear HF; clear a; intro a HF
    refine wl_y rfl HF rfl rfl (yl_indexAddrR (e := 168) (i := k) (size := 3) rfl (HF.ev rfl) (HF.ev rfl) (by kernel_rfl) (by omega) (by omega) (R_r.out.ao k (by omega))) ?_; clear HF; clear a; intro a HF
    refine wl_y rfl HF rfl rfl (yl_loadR (cs := [.slice ((ps.getD k default).a0) ((ps.getD k default).d.fCells.length) ((ps.getD k default).c0), .slice ((ps.getD k default).a1) ((ps.getD k default).d.fWaits.length) ((ps.getD k default).c1), .bool ((ps.getD k default).d.fGone)]) rfl (HF.ev rfl) (R_r.out.elem HS.out (get_getD (xs := ps) (j := k) (d := default) (by omega))) (by kernel_rfl)) ?_; clear HF; clear a; intro a HF
    refine wl_call rfl HF rfl (enter_of Try.func154 (by kernel_rfl) rfl) (args := #[.agg #[.slice ((ps.getD k default).a0) ((ps.getD k default).d.fCells.length) ((ps.getD k default).c0), .slice ((ps.getD k default).a1) ((ps.getD k default).d.fWaits.length) ((ps.getD k default).c1), .bool ((ps.getD k default).d.fGone)]]) rfl (toDiskH_any (ps.getD k default) _ (hf k) ((HP.out k (by omega)).below HS.out.bel)) rfl rfl ?_
    rintro _ w3 ⟨⟨qa2, qc2, qb2, qe2, qd⟩, hqd, rfl, hs⟩; obtain rfl : qd = (ps.getD k default).d := hqd; refine ⟨_, rfl, ?_⟩
    replace HS := Bx.mk ((HS.out.add hs)); clear hs HF; clear a; intro a HF
    replace HS : Bx (St w0 ([HD.asr ⟨qa2, qc2, qb2, qe2, (ps.getD k default).d⟩, rowA HD.cells 3 44 (.slice (some ⟨b1, 0, none⟩) ps.length ps.length) (qs ++ List.replicate (ps.length - qs.length) (default : HD)), sepA (qs.map HD.asr)]) _) := ⟨HS.out⟩
    refine wl_y rfl HF rfl rfl (yl_indexAddr (e := 44) (i := qs.length) (size := 3) rfl (HF.ev rfl) (HF.ev rfl) (by kernel_rfl) rfl (by omega)) ?_; clear HF; clear a; intro a HF
    refine wl_storeEn HD.cells_len rfl rfl rfl (HF.ev rfl) (HF.ev rfl) (by kernel_rfl) HS.out 1 rfl (by omega) (z := (⟨qa2, qc2, qb2, qe2, (ps.getD k default).d⟩ : HD)) rfl (by first | rfl | simp [Value.oneCell']) ?_; clear HS; intro w4 HS; replace HS := Bx.mk HS
    refine wpList_nil ?_
    refine ex_block ?_
    refine ex_then ?_
    refine wp_region_lit ?_
    refine wl_y rfl HF rfl rfl (yl_move rfl (HF.ev rfl)) ?_; clear HF; clear a; intro a HF
    refine wl_y rfl HF rfl rfl (yl_addI rfl (HF.ev rfl) (HF.ev rfl) (i64w (by omega))) ?_; clear HF; clear a; intro a HF
    refine wl_y rfl HF rfl rfl (yl_assign rfl (HF.ev rfl)) ?_; clear HF; clear a; intro a HF
    refine wpList_nil ?_
    refine ex_then ?_
    rw [repl_set qs ps.length default (⟨qa2, qc2, qb2, qe2, (ps.getD k default).d⟩ : HD) (by omega)] at HS
    replace HS := Bx.mk (St.hdSnoc (((HS.out).pick 2 rfl).pick 1 rfl))
    replace HS := Bx.mk ((((HS.out).pick 0 rfl).pick 1 rfl))
    have hnext : dsOf (qs ++ [(⟨qa2, qc2, qb2, qe2, (ps.getD k default).d⟩ : HD)]) = dsOf (ps.take (k + 1)) := by rw [dsOf_append, hq, dsOf_take_succ ps k (by omega)]; rfl
    exact ⟨k + 1, ⟨qs ++ [(⟨qa2, qc2, qb2, qe2, (ps.getD k default).d⟩ : HD)], ⟨by omega, by rw [List.length_append]; show qs.length + 1 = k + 1; omega, hnext⟩, HF.less _ ⟨rfl, rfl, (by show _ = some (Value.int .i64 (((qs ++ [(⟨qa2, qc2, qb2, qe2, (ps.getD k default).d⟩ : HD)]).length : Nat) : Int)); rw [List.length_append]; rfl), trivial⟩, HS.out⟩, (by omega)⟩
  · clear HF; have HF := HF1; clear HF1
    have dcc1 := of_decide_eq_false cc1
    refine wc_false HF rfl ?_
    refine wp_exit ?_
    refine ex_then_exit ?_
    refine ex_then_exit ?_
    refine ex_block_hit ?_
    refine ex_then ?_
    refine wp_seq ?_
    refine wp_region_lit ?_
    refine wl_y rfl HF rfl rfl (yl_move rfl (HF.ev rfl)) ?_; clear HF; clear a; intro a HF
    refine wl_y rfl HF rfl rfl (yl_assign rfl (HF.ev rfl)) ?_; clear HF; clear a; intro a HF
    refine wpList_nil ?_
    refine ex_then ?_
    refine wp_ret ?_
    refine bp_ret1 HF Try.results105 (HF.res rfl) ?_
    replace HS : Bx (St w0 ([rowA HD.cells 3 44 (.slice (some ⟨b1, 0, none⟩) ps.length ps.length) (qs ++ List.replicate (ps.length - qs.length) (default : HD)), sepA (qs.map HD.asr)]) _) := ⟨((HS.out).pick 1 rfl).pick 1 rfl⟩
    have hkn : qs.length = ps.length := by omega
    have HT := HS.out
    rw [show ps.length - qs.length = 0 by omega, List.replicate_zero, List.append_nil] at HT
    rw [show k = ps.length by omega, List.take_length] at hq
    exact ⟨_, _, qs, by rw [hkn], hq, by rw [hkn]; exact HT⟩

set_option maxHeartbeats 1000000 in
set_option maxRecDepth 100000 in
theorem toRaid_x (a0 : Option Addr) (c0 : Nat) (ps : List HD) (w0 : World) (hn : ps.length ≤ 1048576) (hf : ∀ k, (ps.getD k default).d.Fit) (hR : Rd HD.cells 3 w0 a0 ps.length ps) (hP : ∀ k, k < ps.length → (ps.getD k default).reads w0) : Calls Try.prog 35 #[.agg #[.slice a0 ps.length c0]] w0 fun e w' => ∃ ao cp qs, e = .returned (.agg #[.slice ao qs.length cp]) ∧ dsOf qs = dsOf ps ∧ St w0 [rowA HD.cells 3 44 (.slice ao qs.length cp) qs, sepA (qs.map HD.asr)] w' := by
  have HR := Bx.mk hR; have HP := Bx.mk hP; clear hR hP
  have HS := Bx.mk (St.start w0)
  refine wc_enter Try.func35 rfl Try.ntmps35 [(0, .agg #[.slice a0 ps.length c0])] ⟨rfl, trivial⟩ rfl ?_; intro a HF
  refine wp_seq ?_
  refine wp_region_lit ?_
  refine wl_box rfl HF rfl (HF.ev rfl) (Z := [.slice a0 ps.length c0]) rfl rfl rfl rfl HS.out ?_; clear HF HS; clear a; intro a w1 b1 HF HS; replace HS := Bx.mk HS
  refine wl_alloc rfl HF rfl rfl rfl (Z := [.slice none 0 0]) (by kernel_rfl) rfl HS.out ?_; clear HF HS; clear a; intro a w2 b2 HF HS; replace HS := Bx.mk HS
  refine wpList_nil ?_
  refine ex_then ?_
  refine wp_seq ?_
  refine wp_region_lit ?_
  refine wl_alloc rfl HF rfl rfl rfl (Z := [.slice none 0 0]) (by kernel_rfl) rfl HS.out ?_; clear HF HS; clear a; intro a w3 b3 HF HS; replace HS := Bx.mk HS
  refine wpList_nil ?_
  refine ex_then ?_
  refine wp_seq ?_
  refine wp_region_lit ?_
  refine wl_y rfl HF rfl rfl (yl_fieldAddr (j := 0) rfl (HF.ev rfl) (by kernel_rfl)) ?_; clear HF; clear a; intro a HF
  refine wl_y rfl HF rfl rfl (yl_load (v := .slice a0 ps.length c0) rfl (HF.ev rfl) (((HS.out.box 2 rfl).cell 0).trans rfl) (by kernel_rfl)) ?_; clear HF; clear a; intro a HF
  refine wl_call rfl HF rfl (enter_of Try.func105 (by kernel_rfl) rfl) (args := #[.slice a0 ps.length c0]) rfl (toDiskS_any a0 c0 ps _ hn hf (HR.out.below HS.out.bel) (fun k hk => (HP.out k hk).below HS.out.bel)) rfl rfl ?_
  rintro _ w4 ⟨ao, cp, qs, rfl, hq, hs⟩
  refine ⟨_, rfl, ?_⟩; replace HS := Bx.mk (HS.out.add hs); clear hs HF; clear a; intro a HF
  replace HS : Bx (St w0 ([rowA HD.cells 3 44 (.slice ao qs.length cp) qs, sepA (qs.map HD.asr), boxA b3 1 25 (.agg #[.slice none 0 0]), boxA b2 1 25 (.agg #[.slice none 0 0]), boxA b1 1 77 (.agg #[.slice a0 ps.length c0])]) _) := ⟨HS.out⟩
  refine wl_y rfl HF rfl rfl (yl_fieldAddr (j := 0) rfl (HF.ev rfl) (by kernel_rfl)) ?_; clear HF; clear a; intro a HF
  refine wl_storeF rfl rfl rfl (HF.ev rfl) (HF.ev rfl) (by kernel_rfl) HS.out 2 rfl rfl rfl ?_; clear HS; intro w5 HS; replace HS := Bx.mk HS
  have HS : Bx (St w0 ([rowA HD.cells 3 44 (.slice ao qs.length cp) qs, sepA (qs.map HD.asr), boxA b3 1 25 (.agg #[.slice ao qs.length cp]), boxA b2 1 25 (.agg #[.slice none 0 0]), boxA b1 1 77 (.agg #[.slice a0 ps.length c0])]) _) := HS
  refine wpList_nil ?_
  refine ex_then ?_
  refine wp_seq ?_
  refine wp_region_lit ?_
  refine wl_y rfl HF rfl rfl (yl_loadR (cs := [.slice ao qs.length cp]) rfl (HF.ev rfl) ((HS.out.box 2 rfl).sub 0 1) (by kernel_rfl)) ?_; clear HF; clear a; intro a HF
  refine wl_storeBox rfl HF rfl rfl (HF.ev rfl) (HF.ev rfl) HS.out 3 rfl (cells_lit [.slice ao qs.length cp] rfl rfl) (by kernel_rfl) ?_; clear HS; intro w6 HS; replace HS := Bx.mk HS
  have HS : Bx (St w0 ([rowA HD.cells 3 44 (.slice ao qs.length cp) qs, sepA (qs.map HD.asr), boxA b3 1 25 (.agg #[.slice ao qs.length cp]), boxA b2 1 25 (.agg #[.slice ao qs.length cp]), boxA b1 1 77 (.agg #[.slice a0 ps.length c0])]) _) := HS
  refine wpList_nil ?_
  refine ex_then ?_
  refine wp_ret ?_
  refine bp_ret1 HF Try.results35 (HF.resBox rfl (HS.out.box 3 rfl) (by kernel_rfl)) ?_
  replace HS : Bx (St w0 ([rowA HD.cells 3 44 (.slice ao qs.length cp) qs, sepA (qs.map HD.asr), boxA b3 1 25 (.agg #[.slice ao qs.length cp]), boxA b2 1 25 (.agg #[.slice ao qs.length cp]), boxA b1 1 77 (.agg #[.slice a0 ps.length c0])]) _) := ⟨((HS.out).pick 1 rfl).pick 1 rfl⟩
  exact ⟨_, _, qs, rfl, hq, (((HS.out.erase 4).erase 3).erase 2)⟩

theorem toRaid_any (v : Value) (x : RaidD) (w : World) (hf : x.Fit) (hr : RaidD.Reads w v x) : Calls Try.prog 35 #[v] w fun e w' => ∃ v', e = .returned v' ∧ RaidD.Own w' w.heap.size w'.heap.size v' x ∧ Below w.heap.size w w' := by
  obtain ⟨a, c, ps, rfl, hx, hr, hp⟩ := hr
  refine (toRaid_x a c ps w (by have := hf.n; rw [← hx, dsOf_len] at this; exact this) (fun k => by rw [← dsOf_get, hx]; exact hf.d k) hr hp).mono ?_
  rintro e w' ⟨ao, cp, qs, rfl, hq, hs⟩
  exact ⟨_, rfl, RaidD.st_own hs (hq.trans hx), hs.bel⟩

set_option maxHeartbeats 1000000 in
set_option maxRecDepth 100000 in
theorem eqDiskS_any (a0 : Option Addr) (c0 : Nat) (ps : List HD) (a1 : Option Addr) (c1 : Nat) (qs : List HD) (w0 : World) (hq : dsOf qs = dsOf ps) (hn : ps.length ≤ 1048576) (hf : ∀ k, (ps.getD k default).d.Fit) (hR : Rd HD.cells 3 w0 a0 ps.length ps) (hP : ∀ k, k < ps.length → (ps.getD k default).reads w0) (hR2 : Rd HD.cells 3 w0 a1 qs.length qs) (hP2 : ∀ k, k < qs.length → (qs.getD k default).reads w0) : Calls Try.prog 106 #[.slice a0 ps.length c0, .slice a1 qs.length c1] w0 fun e w' => e = .returned (.bool true) ∧ Below w0.heap.size w0 w' := by
  have HR := Bx.mk hR; have HP := Bx.mk hP; clear hR hP; have HR2 := Bx.mk hR2; have HP2 := Bx.mk hP2; clear hR2 hP2
  have hlq : qs.length = ps.length := by rw [← dsOf_len, hq, dsOf_len]
  have HS := Bx.mk (St.start w0)
  refine wc_enter Try.func106 rfl Try.ntmps106 [(0, .slice a0 ps.length c0), (1, .slice a1 qs.length c1)] ⟨rfl, rfl, trivial⟩ rfl ?_; intro a HF
  refine wp_seq ?_
  refine wp_region_lit ?_
  refine wl_y rfl HF rfl rfl (yl_assign rfl (HF.ev rfl)) ?_; clear HF; clear a; intro a HF
  refine wpList_nil ?_
  refine ex_then ?_
  refine wp_seq ?_
  refine wp_seq ?_
  refine wp_region_lit ?_
  refine wl_y rfl HF rfl rfl (yl_move rfl (HF.ev rfl)) ?_; clear HF; clear a; intro a HF
  refine wl_y rfl HF rfl rfl (yl_lenL (e := 44) (size := 3) rfl (HF.ev rfl) (by kernel_rfl)) ?_; clear HF; clear a; intro a HF
  refine wl_y rfl HF rfl rfl (yl_move rfl (HF.ev rfl)) ?_; clear HF; clear a; intro a HF
  refine wl_y rfl HF rfl rfl (yl_lenL (e := 44) (size := 3) rfl (HF.ev rfl) (by kernel_rfl)) ?_; clear HF; clear a; intro a HF
  refine wl_y rfl HF rfl rfl (yl_neqI rfl (HF.ev rfl) (HF.ev rfl)) ?_; clear HF; clear a; intro a HF
  refine wpList_nil ?_
  refine ex_then ?_
  refine HF.cases 10 rfl (fun cc1 HF1 => ?_) (fun cc1 HF1 => ?_)
  · clear HF; have HF := HF1; clear HF1
    have dcc1 := bne_iff_ne.1 cc1
    omega
  · clear HF; have HF := HF1; clear HF1
    have dcc1 := bne_eq_false_iff_eq.1 cc1
    refine wc_false HF rfl ?_
    refine wp_skip ?_
    refine ex_then ?_
    refine wp_seq ?_
    refine wp_seq ?_
    refine wp_region_lit ?_
    refine wl_y rfl HF rfl rfl (yl_assign rfl (HF.ev rfl)) ?_; clear HF; clear a; intro a HF
    refine wpList_nil ?_
    refine ex_then ?_
    refine wp_block ?_
    refine wc_loop (ι := Nat) (fun k a w => (k ≤ ps.length) ∧ Fr 27 a [(0, .slice a0 ps.length c0), (1, .slice a1 qs.length c1), (5, .int .i64 (k : Int))] ∧ St w0 ([]) w) (fun k => ps.length - k) 0 ⟨Nat.zero_le _, HF.less _ ⟨rfl, rfl, rfl, trivial⟩, HS.out⟩ ?_
    clear HF HS; clear a
    rintro k a w1 ⟨hk, HF, HS⟩
    replace HS := Bx.mk HS
    refine wp_seq ?_
    refine wp_seq ?_
    refine wp_region_lit ?_
    refine wl_y rfl HF rfl rfl (yl_move rfl (HF.ev rfl)) ?_; clear HF; clear a; intro a HF
    refine wl_y rfl HF rfl rfl (yl_move rfl (HF.ev rfl)) ?_; clear HF; clear a; intro a HF
    refine wl_y rfl HF rfl rfl (yl_lenL (e := 44) (size := 3) rfl (HF.ev rfl) (by kernel_rfl)) ?_; clear HF; clear a; intro a HF
    refine wl_y rfl HF rfl rfl (yl_lssI rfl (HF.ev rfl) (HF.ev rfl)) ?_; clear HF; clear a; intro a HF
    refine wpList_nil ?_
    refine ex_then ?_
    refine HF.cases 14 rfl (fun cc2 HF1 => ?_) (fun cc2 HF1 => ?_)
    · clear HF; have HF := HF1; clear HF1
      have dcc2 := of_decide_eq_true cc2
      refine wc_true HF rfl ?_
      refine wp_skip ?_
      refine ex_then ?_
      refine wp_seq ?_
      refine wp_block ?_
      refine wp_seq ?_
      obtain ⟨g_r, o_r, r0⟩ := HR.out.opn; have R_r := Bx.mk r0; clear r0
      obtain ⟨g_s, o_s, r0⟩ := HR2.out.opn; have R_s := Bx.mk r0; clear r0
      have hqk : (qs.getD k default).d = (ps.getD k default).d := by rw [← dsOf_get, ← dsOf_get, hq]
      refine wr_quiet (by kernel_rfl) (by kernel_rfl) HS.out ?_
      refine wq_y rfl HF rfl rfl (fun _ HS => (yl_move rfl (HF.ev rfl))) ?_; clear HF; clear a; intro a HF
      refine wq_y rfl HF rfl rfl (fun _ HS => (yl_move rfl (HF.ev rfl))) ?_; clear HF; clear a; intro a HF
      refine wq_y rfl HF rfl rfl (fun _ HS => (yl_indexAddrR (e := 44) (i := k) (size := 3) rfl (HF.ev rfl) (HF.ev rfl) (by kernel_rfl) rfl (by omega) (R_r.out.ao k (by omega)))) ?_; clear HF; clear a; intro a HF
      refine wq_y rfl HF rfl rfl (fun _ HS => (yl_loadR (cs := [.slice ((ps.getD k default).a0) ((ps.getD k default).d.fCells.length) ((ps.getD k default).c0), .slice ((ps.getD k default).a1) ((ps.getD k default).d.fWaits.length) ((ps.getD k default).c1), .bool ((ps.getD k default).d.fGone)]) rfl (HF.ev rfl) (R_r.out.elem HS (get_getD (xs := ps) (j := k) (d := default) (by omega))) (by kernel_rfl))) ?_; clear HF; clear a; intro a HF
      refine wq_y rfl HF rfl rfl (fun _ HS => (yl_move rfl (HF.ev rfl))) ?_; clear HF; clear a; intro a HF
      refine wq_y rfl HF rfl rfl (fun _ HS => (yl_move rfl (HF.ev rfl))) ?_; clear HF; clear a; intro a HF
      refine wq_y rfl HF rfl rfl (fun _ HS => (yl_indexAddrR (e := 44) (i := k) (size := 3) rfl (HF.ev rfl) (HF.ev rfl) (by kernel_rfl) rfl (by omega) (R_s.out.ao k (by omega)))) ?_; clear HF; clear a; intro a HF
      refine wq_y rfl HF rfl rfl (fun _ HS => (yl_loadR (cs := [.slice ((qs.getD k default).a0) ((qs.getD k default).d.fCells.length) ((qs.getD k default).c0), .slice ((qs.getD k default).a1) ((qs.getD k default).d.fWaits.length) ((qs.getD k default).c1), .bool ((qs.getD k default).d.fGone)]) rfl (HF.ev rfl) (R_s.out.elem HS (get_getD (xs := qs) (j := k) (d := default) (by omega))) (by kernel_rfl))) ?_; clear HF; clear a; intro a HF
      refine wq_call rfl HF rfl (enter_of Try.func155 (by kernel_rfl) rfl) (args := #[.agg #[.slice ((ps.getD k default).a0) ((ps.getD k default).d.fCells.length) ((ps.getD k default).c0), .slice ((ps.getD k default).a1) ((ps.getD k default).d.fWaits.length) ((ps.getD k default).c1), .bool ((ps.getD k default).d.fGone)], .agg #[.slice ((qs.getD k default).a0) ((qs.getD k default).d.fCells.length) ((qs.getD k default).c0), .slice ((qs.getD k default).a1) ((qs.getD k default).d.fWaits.length) ((qs.getD k default).c1), .bool ((qs.getD k default).d.fGone)]]) rfl (v := .bool true) (fun _ HS => (by have := eqDisk_yes (.agg #[.slice ((ps.getD k default).a0) ((ps.getD k default).d.fCells.length) ((ps.getD k default).c0), .slice ((ps.getD k default).a1) ((ps.getD k default).d.fWaits.length) ((ps.getD k default).c1), .bool ((ps.getD k default).d.fGone)]) (.agg #[.slice ((qs.getD k default).a0) ((qs.getD k default).d.fCells.length) ((qs.getD k default).c0), .slice ((qs.getD k default).a1) ((qs.getD k default).d.fWaits.length) ((qs.getD k default).c1), .bool ((qs.getD k default).d.fGone)]) (ps.getD k default).d _ (hf k) ⟨_, _, _, _, rfl, ((HP.out k (by omega)).below HS.bel).rc, ((HP.out k (by omega)).below HS.bel).rw⟩ (by rw [← hqk]; exact ⟨_, _, _, _, rfl, ((HP2.out k (by omega)).below HS.bel).rc, ((HP2.out k (by omega)).below HS.bel).rw⟩); exact this)) rfl rfl ?_; clear HF; clear a; intro a HF
      refine wq_y rfl HF rfl rfl (fun _ HS => (yl_not rfl (HF.ev rfl))) ?_; clear HF; clear a; intro a HF
      refine wpQuiet_nil ?_; intro w2 HS; replace HS := Bx.mk HS
      refine ex_then ?_
      refine wc_false HF rfl ?_
      refine wp_skip ?_
      refine ex_block ?_
      refine ex_then ?_
      refine wp_region_lit ?_
      refine wl_y rfl HF rfl rfl (yl_move rfl (HF.ev rfl)) ?_; clear HF; clear a; intro a HF
      refine wl_y rfl HF rfl rfl (yl_addI rfl (HF.ev rfl) (HF.ev rfl) (i64w (by omega))) ?_; clear HF; clear a; intro a HF
      refine wl_y rfl HF rfl rfl (yl_assign rfl (HF.ev rfl)) ?_; clear HF; clear a; intro a HF
      refine wpList_nil ?_
      refine ex_then ?_
      exact ⟨k + 1, ⟨(by omega), HF.less _ ⟨rfl, rfl, rfl, trivial⟩, HS.out⟩, (by omega)⟩
    · clear HF; have HF := HF1; clear HF1
      have dcc2 := of_decide_eq_false cc2
      refine wc_false HF rfl ?_
      refine wp_exit ?_
      refine ex_then_exit ?_
      refine ex_then_exit ?_
      refine ex_block_hit ?_
      refine ex_then ?_
      refine wp_seq ?_
      refine wp_region_lit ?_
      refine wl_y rfl HF rfl rfl (yl_assign rfl (HF.ev rfl)) ?_; clear HF; clear a; intro a HF
      refine wpList_nil ?_
      refine ex_then ?_
      refine wp_ret ?_
      refine bp_ret1 HF Try.results106 (HF.res rfl) ?_
      exact ⟨rfl, HS.out.bel⟩

set_option maxHeartbeats 1000000 in
set_option maxRecDepth 100000 in
theorem eqRaid_x (a0 : Option Addr) (c0 : Nat) (ps : List HD) (a1 : Option Addr) (c1 : Nat) (qs : List HD) (w0 : World) (hq : dsOf qs = dsOf ps) (hn : ps.length ≤ 1048576) (hf : ∀ k, (ps.getD k default).d.Fit) (hR : Rd HD.cells 3 w0 a0 ps.length ps) (hP : ∀ k, k < ps.length → (ps.getD k default).reads w0) (hR2 : Rd HD.cells 3 w0 a1 qs.length qs) (hP2 : ∀ k, k < qs.length → (qs.getD k default).reads w0) : Calls Try.prog 37 #[.agg #[.slice a0 ps.length c0], .agg #[.slice a1 qs.length c1]] w0 fun e w' => e = .returned (.bool true) ∧ Below w0.heap.size w0 w' := by
  have HR := Bx.mk hR; have HP := Bx.mk hP; clear hR hP; have HR2 := Bx.mk hR2; have HP2 := Bx.mk hP2; clear hR2 hP2
  have hlq : qs.length = ps.length := by rw [← dsOf_len, hq, dsOf_len]
  have HS := Bx.mk (St.start w0)
  refine wc_enter Try.func37 rfl Try.ntmps37 [(0, .agg #[.slice a0 ps.length c0]), (1, .agg #[.slice a1 qs.length c1])] ⟨rfl, rfl, trivial⟩ rfl ?_; intro a HF
  refine wp_seq ?_
  refine wp_region_lit ?_
  refine wl_box rfl HF rfl (HF.ev rfl) (Z := [.slice a0 ps.length c0]) rfl rfl rfl rfl HS.out ?_; clear HF HS; clear a; intro a w1 b1 HF HS; replace HS := Bx.mk HS
  refine wl_box rfl HF rfl (HF.ev rfl) (Z := [.slice a1 qs.length c1]) rfl rfl rfl rfl HS.out ?_; clear HF HS; clear a; intro a w2 b2 HF HS; replace HS := Bx.mk HS
  refine wl_y rfl HF rfl rfl (yl_assign rfl (HF.ev rfl)) ?_; clear HF; clear a; intro a HF
  refine wpList_nil ?_
  refine ex_then ?_
  refine wp_seq ?_
  refine wp_seq ?_
  refine wp_region_lit ?_
  refine wl_y rfl HF rfl rfl (yl_fieldAddr (j := 0) rfl (HF.ev rfl) (by kernel_rfl)) ?_; clear HF; clear a; intro a HF
  refine wl_y rfl HF rfl rfl (yl_load (v := .slice a0 ps.length c0) rfl (HF.ev rfl) (((HS.out.box 1 rfl).cell 0).trans rfl) (by kernel_rfl)) ?_; clear HF; clear a; intro a HF
  refine wl_y rfl HF rfl rfl (yl_fieldAddr (j := 0) rfl (HF.ev rfl) (by kernel_rfl)) ?_; clear HF; clear a; intro a HF
  refine wl_y rfl HF rfl rfl (yl_load (v := .slice a1 qs.length c1) rfl (HF.ev rfl) (((HS.out.box 0 rfl).cell 0).trans rfl) (by kernel_rfl)) ?_; clear HF; clear a; intro a HF
  refine wl_callB rfl HF rfl (enter_of Try.func106 (by kernel_rfl) rfl) (args := #[.slice a0 ps.length c0, .slice a1 qs.length c1]) rfl (v := .bool true) (eqDiskS_any a0 c0 ps a1 c1 qs _ hq hn hf (HR.out.below HS.out.bel) (fun k hk => (HP.out k hk).below HS.out.bel) (HR2.out.below HS.out.bel) (fun k hk => (HP2.out k hk).below HS.out.bel)) rfl rfl HS.out ?_; clear HF HS; clear a; intro w3 a HS HF; replace HS := Bx.mk HS
  refine wl_y rfl HF rfl rfl (yl_not rfl (HF.ev rfl)) ?_; clear HF; clear a; intro a HF
  refine wpList_nil ?_
  refine ex_then ?_
  refine wc_false HF rfl ?_
  refine wp_skip ?_
  refine ex_then ?_
  refine wp_seq ?_
  refine wp_region_lit ?_
  refine wl_y rfl HF rfl rfl (yl_assign rfl (HF.ev rfl)) ?_; clear HF; clear a; intro a HF
  refine wpList_nil ?_
  refine ex_then ?_
  refine wp_ret ?_
  refine bp_ret1 HF Try.results37 (HF.res rfl) ?_
  exact ⟨rfl, HS.out.bel⟩

theorem eqRaid_yes (u v : Value) (x : RaidD) (w : World) (hf : x.Fit) (hr : RaidD.Reads w u x) (hs : RaidD.Reads w v x) : Calls Try.prog 37 #[u, v] w fun e w' => e = .returned (.bool true) ∧ Below w.heap.size w w' := by
  obtain ⟨a, c, ps, rfl, hx, hr, hp⟩ := hr
  obtain ⟨b, d, qs, rfl, hy, hr2, hp2⟩ := hs
  exact eqRaid_x a c ps b d qs w (hy.trans hx.symm) (by have := hf.n; rw [← hx, dsOf_len] at this; exact this) (fun k => by rw [← dsOf_get, hx]; exact hf.d k) hr hp hr2 hp2

end Go.Proofs.Ytfijfjjleelphaa
