/- The laws' helpers over space. -/
import Derived.Test.YtkgmilobmbeplaaRows
import Derived.Test.YtkgmilobmbeplaaPrim
import Derived.Test.YtkgmilobmbeplaaPtr
import Derived.StillTailTactics
import Derived.BigQuiet
import Derived.Deep.QuietTactic
import Derived.Deep.RegionWith
namespace Go.Proofs.Ytkgmilobmbeplaa
open Go.RowKit

structure SpaceD where
  fRefs : List Int
  fLast : List Int
def SpaceD.Reads (w : World) (v : Value) (x : SpaceD) : Prop := ∃ (a0 : Option Addr) (c0 : Nat) (a1 : Option Addr) (c1 : Nat), v = .agg #[.slice a0 x.fRefs.length c0, .slice a1 x.fLast.length c1] ∧ Rd encI 1 w a0 x.fRefs.length x.fRefs ∧ Rd encI 1 w a1 x.fLast.length x.fLast
def SpaceD.Own (w : World) (B B1 : Nat) (v : Value) (x : SpaceD) : Prop := ∃ (a0 : Option Addr) (c0 : Nat) (a1 : Option Addr) (c1 : Nat), v = .agg #[.slice a0 x.fRefs.length c0, .slice a1 x.fLast.length c1] ∧ RowO encI 1 3 w B B1 (.slice a0 x.fRefs.length c0) x.fRefs ∧ RowO encI 1 3 w B B1 (.slice a1 x.fLast.length c1) x.fLast ∧ Apart (.slice a0 x.fRefs.length c0) (.slice a1 x.fLast.length c1)
theorem SpaceD.Reads.below {w w' : World} {v : Value} {x : SpaceD} (h : SpaceD.Reads w v x) (hb : Below w.heap.size w w') : SpaceD.Reads w' v x := by
  obtain ⟨a0, c0, a1, c1, rfl, r0, r1⟩ := h
  exact ⟨a0, c0, a1, c1, rfl, r0.below hb, r1.below hb⟩
theorem SpaceD.Own.rd {w : World} {B B1 : Nat} {v : Value} {x : SpaceD} (h : SpaceD.Own w B B1 v x) : SpaceD.Reads w v x := by
  obtain ⟨a0, c0, a1, c1, rfl, r0, r1, p0_1⟩ := h
  obtain ⟨u0, e0, k0, d0⟩ := r0.rd encI_len
  simp only [Value.slice.injEq, true_and] at k0
  obtain ⟨rfl, rfl⟩ := k0
  obtain ⟨u1, e1, k1, d1⟩ := r1.rd encI_len
  simp only [Value.slice.injEq, true_and] at k1
  obtain ⟨rfl, rfl⟩ := k1
  exact ⟨_, _, _, _, rfl, d0, d1⟩
theorem SpaceD.Own.below {w : World} {B B1 : Nat} {v : Value} {x : SpaceD} (h : SpaceD.Own w B B1 v x) {w' : World} {C : Nat} (hb : Below C w w') (hC : w.heap.size ≤ C) : SpaceD.Own w' B B1 v x := by
  obtain ⟨a0, c0, a1, c1, rfl, r0, r1, p0_1⟩ := h
  exact ⟨a0, c0, a1, c1, rfl, r0.below hb hC, r1.below hb hC, p0_1⟩
theorem SpaceD.Own.mono {w : World} {B B1 : Nat} {v : Value} {x : SpaceD} (h : SpaceD.Own w B B1 v x) {B' B1' : Nat} (hB : B' ≤ B) (hB1 : B1 ≤ B1') : SpaceD.Own w B' B1' v x := by
  obtain ⟨a0, c0, a1, c1, rfl, r0, r1, p0_1⟩ := h
  exact ⟨a0, c0, a1, c1, rfl, r0.mono hB hB1, r1.mono hB hB1, p0_1⟩
theorem SpaceD.Own.outside {w : World} {B B1 : Nat} {v : Value} {x : SpaceD} (h : SpaceD.Own w B B1 v x) {w' : World} {C C1 : Nat} (ho : Outside C C1 w w') (hap : B1 ≤ C ∨ C1 ≤ B) : SpaceD.Own w' B B1 v x := by
  obtain ⟨a0, c0, a1, c1, rfl, r0, r1, p0_1⟩ := h
  exact ⟨a0, c0, a1, c1, rfl, r0.outside ho hap, r1.outside ho hap, p0_1⟩
theorem SpaceD.Own.set {w : World} {B B1 : Nat} {v : Value} {x : SpaceD} (h : SpaceD.Own w B B1 v x) {p : Addr} (hp : p.block < B) (u : Value) : SpaceD.Own (w.setCell p u) B B1 v x := by
  obtain ⟨a0, c0, a1, c1, rfl, r0, r1, p0_1⟩ := h
  exact ⟨a0, c0, a1, c1, rfl, r0.set hp u, r1.set hp u, p0_1⟩
def SpaceD.bulk (x : SpaceD) : Nat := x.fRefs.length + x.fLast.length
structure SpaceD.Small (x : SpaceD) : Prop where
  s0_0 : x.fRefs.length ≤ 9223372036854775807
  s1_0 : x.fLast.length ≤ 9223372036854775807
structure SpaceD.Fit (x : SpaceD) : Prop where
  f0 : x.fRefs.length ≤ 1048576
  f1 : x.fLast.length ≤ 1048576
theorem SpaceD.fit {x : SpaceD} (h : x.bulk ≤ 1048576) : x.Fit := by
  unfold SpaceD.bulk at h
  exact ⟨by omega, by omega⟩

set_option maxHeartbeats 400000 in
set_option maxRecDepth 100000 in
theorem szSpace_any (v : Value) (x : SpaceD) (l : Int) (w : World) (hl0 : 0 ≤ l) (hl1 : l ≤ 1048576) (hr : SpaceD.Reads w v x) (hs : x.Small) :
    Calls Try.prog 67 #[v, .int .i64 l] w fun e w' => e = .returned (.int .i64 (leftOf l x.bulk)) ∧ Below w.heap.size w w' := by
  obtain ⟨a0, c0, a1, c1, rfl, r0, r1⟩ := hr
  have hbA : Below w.heap.size w (w.alloc (.cells #[.slice a0 x.fRefs.length c0, .slice a1 x.fLast.length c1] 60)) := (Below.refl _ _).alloc (Nat.le_refl _) _
  have hA0 := blk_new w (.cells #[.slice a0 x.fRefs.length c0, .slice a1 x.fLast.length c1] 60) _ rfl
  obtain ⟨t0, ht0⟩ : ∃ t : Nat, t = x.fRefs.length := ⟨_, rfl⟩
  obtain ⟨t1, ht1⟩ : ∃ t : Nat, t = x.fLast.length := ⟨_, rfl⟩
  have HB : Hid (x.bulk = t0 + t1) := by
    show x.bulk = _
    simp only [ht0, ht1]
    unfold SpaceD.bulk
    omega
  have HT0 := Lib.hid ht0
  clear ht0
  have HT1 := Lib.hid ht1
  clear ht1
  go_enter Try.func67, Try.ntmps67
  go_wp2_with fail
  refine (szIntS_any _ _ _ _ _ (by omega) (by omega) hs.s0_0).mono ?_
  rintro e w1 ⟨rfl, b1⟩
  rw [← HT0.out]
  have hA1 := blk_below hA0 b1 (Nat.le_refl _)
  have hb1 := hbA.trans (b1.mono hbA.size)
  clear b1 hA0
  by_cases g0 : l < (t0 : Int)
  · rw [leftOf_no g0]
    go_wp2
    go_ret
    exact ⟨ret_int (by rw [HB.out, leftOf_no (by omega)]), hb1⟩
  rw [leftOf_yes (Int.not_lt.1 g0)]
  have p1 : w1.cell? ⟨w.heap.size, 1, none⟩ = some (.slice a1 x.fLast.length c1) := blk_cell hA1 1
  go_wp2_with fail
  refine (szIntS_any _ _ _ _ _ (by omega) (by omega) hs.s1_0).mono ?_
  rintro e w2 ⟨rfl, b2⟩
  rw [← HT1.out]
  have hA2 := blk_below hA1 b2 (Nat.le_refl _)
  have hb2 := hb1.trans (b2.mono hb1.size)
  clear b2 hA1
  by_cases g1 : l - t0 < (t1 : Int)
  · rw [leftOf_no g1]
    go_wp2
    go_ret
    exact ⟨ret_int (by rw [HB.out, leftOf_no (by omega)]), hb2⟩
  rw [leftOf_yes (Int.not_lt.1 g1)]
  go_wp2
  go_ret
  exact ⟨ret_int (by rw [HB.out, leftOf_yes (by omega)]; omega), hb2⟩

set_option maxHeartbeats 400000 in
set_option maxRecDepth 100000 in
theorem toSpace_any (v : Value) (x : SpaceD) (w : World) (hf : x.Fit) (hr : SpaceD.Reads w v x) :
    Calls Try.prog 73 #[v] w fun e w' => ∃ v', e = .returned v' ∧ SpaceD.Own w' w.heap.size w'.heap.size v' x ∧ Below w.heap.size w w' := by
  obtain ⟨a0, c0, a1, c1, rfl, r0, r1⟩ := hr
  go_enter Try.func73, Try.ntmps73
  go_wp2_with fail
  have hb0 : Below w.heap.size w (((w.alloc (.cells #[.slice a0 x.fRefs.length c0, .slice a1 x.fLast.length c1] 60)).alloc (.cells #[.slice none 0 0, .slice none 0 0] 65)).alloc (.cells #[.slice none 0 0, .slice none 0 0] 65)) := (((Below.refl _ _).alloc (Nat.le_refl _) _).alloc (by simp) _).alloc (by simp; omega) _
  have hA0 : (((w.alloc (.cells #[.slice a0 x.fRefs.length c0, .slice a1 x.fLast.length c1] 60)).alloc (.cells #[.slice none 0 0, .slice none 0 0] 65)).alloc (.cells #[.slice none 0 0, .slice none 0 0] 65)).heap[w.heap.size]? = some (.cells #[.slice a0 x.fRefs.length c0, .slice a1 x.fLast.length c1] 60 (0, 0)) := blk_alloc (blk_alloc (blk_new w _ _ rfl) _) _
  have hR0 : (((w.alloc (.cells #[.slice a0 x.fRefs.length c0, .slice a1 x.fLast.length c1] 60)).alloc (.cells #[.slice none 0 0, .slice none 0 0] 65)).alloc (.cells #[.slice none 0 0, .slice none 0 0] 65)).heap[w.heap.size + 1]? = some (.cells #[.slice none 0 0, .slice none 0 0] 65 (0, 0)) := blk_alloc (blk_new _ _ (w.heap.size + 1) (by simp)) _
  have hO0 : (((w.alloc (.cells #[.slice a0 x.fRefs.length c0, .slice a1 x.fLast.length c1] 60)).alloc (.cells #[.slice none 0 0, .slice none 0 0] 65)).alloc (.cells #[.slice none 0 0, .slice none 0 0] 65)).heap[w.heap.size + 1 + 1]? = some (.cells #[.slice none 0 0, .slice none 0 0] 65 (0, 0)) := blk_new _ _ (w.heap.size + 1 + 1) (by simp)
  have hz0 : w.heap.size + 1 + 1 < (((w.alloc (.cells #[.slice a0 x.fRefs.length c0, .slice a1 x.fLast.length c1] 60)).alloc (.cells #[.slice none 0 0, .slice none 0 0] 65)).alloc (.cells #[.slice none 0 0, .slice none 0 0] 65)).heap.size := blk_lt hO0
  refine (toIntS_any _ _ _ x.fRefs _ hf.f0 (r0.below hb0)).mono ?_
  rintro e w1 ⟨rfl, on0, b1⟩
  have ro0 : RowO encI 1 3 w1 _ w1.heap.size _ x.fRefs := RowO.mk on0 (fun g hg => (on0.lt g hg).2)
  try simp only [sz_alloc] at ro0
  try simp only [sz_set] at ro0
  clear on0
  have hbW := hb0
  have hb1 := hbW.trans (b1.mono hbW.size)
  have hA1 : w1.heap[w.heap.size]? = some (.cells #[.slice a0 x.fRefs.length c0, .slice a1 x.fLast.length c1] 60 (0, 0)) := blk_below hA0 b1 (Nat.le_refl _)
  have hR1 : w1.heap[w.heap.size + 1]? = some (.cells #[.slice none 0 0, .slice none 0 0] 65 (0, 0)) := blk_below hR0 b1 (Nat.le_refl _)
  have hO1 : w1.heap[w.heap.size + 1 + 1]? = some (.cells #[.slice none 0 0, .slice none 0 0] 65 (0, 0)) := blk_below hO0 b1 (Nat.le_refl _)
  have hz1 : w.heap.size + 1 + 1 < w1.heap.size := blk_lt hO1
  have hs1 := b1.size
  try simp only [sz_alloc] at hs1
  try simp only [sz_set] at hs1
  clear b1 hbW hA0 hR0 hO0
  have pa1 : w1.cell? ⟨w.heap.size, 1, none⟩ = some (.slice a1 x.fLast.length c1) := blk_cell hA1 1
  have po0 : w1.cell? ⟨w.heap.size + 1 + 1, 0, none⟩ = some (.slice none 0 0) := blk_cell hO1 0
  have pf0 := blk_frozen hO1 0
  go_wp2_with fail
  refine (toIntS_any _ _ _ x.fLast _ hf.f1 (r1.below (hb1.setCell (p := ⟨w.heap.size + 1 + 1, 0, none⟩) (by simp; try omega) (.slice (some ⟨w.heap.size + 1 + 1 + 1, 0, none⟩) x.fRefs.length x.fRefs.length)))).mono ?_
  rintro e w2 ⟨rfl, on1, b2⟩
  have ro1 : RowO encI 1 3 w2 _ w2.heap.size _ x.fLast := RowO.mk on1 (fun g hg => (on1.lt g hg).2)
  try simp only [sz_alloc] at ro1
  try simp only [sz_set] at ro1
  clear on1
  have hbW := (hb1.setCell (p := ⟨w.heap.size + 1 + 1, 0, none⟩) (by simp; try omega) (.slice (some ⟨w.heap.size + 1 + 1 + 1, 0, none⟩) x.fRefs.length x.fRefs.length))
  have hb2 := hbW.trans (b2.mono hbW.size)
  have hA2 : w2.heap[w.heap.size]? = some (.cells #[.slice a0 x.fRefs.length c0, .slice a1 x.fLast.length c1] 60 (0, 0)) := blk_below (blk_set_other hA1 (p := ⟨w.heap.size + 1 + 1, 0, none⟩) (by simp; try omega) _) b2 (Nat.le_refl _)
  have hR2 : w2.heap[w.heap.size + 1]? = some (.cells #[.slice none 0 0, .slice none 0 0] 65 (0, 0)) := blk_below (blk_set_other hR1 (p := ⟨w.heap.size + 1 + 1, 0, none⟩) (by simp; try omega) _) b2 (Nat.le_refl _)
  have hO2 : w2.heap[w.heap.size + 1 + 1]? = some (.cells #[.slice (some ⟨w.heap.size + 1 + 1 + 1, 0, none⟩) x.fRefs.length x.fRefs.length, .slice none 0 0] 65 (0, 0)) := blk_below (blk_set hO1 (i := 0) _) b2 (Nat.le_refl _)
  have hz2 : w.heap.size + 1 + 1 < w2.heap.size := blk_lt hO2
  have ro0 := RowO.below (ro0.set (p := ⟨w.heap.size + 1 + 1, 0, none⟩) (by simp; try omega) (.slice (some ⟨w.heap.size + 1 + 1 + 1, 0, none⟩) x.fRefs.length x.fRefs.length)) b2 (Nat.le_refl _)
  have hs2 := b2.size
  try simp only [sz_alloc] at hs2
  try simp only [sz_set] at hs2
  clear b2 hbW hA1 hR1 hO1
  clear pa1 po0 pf0
  have po0 : w2.cell? ⟨w.heap.size + 1 + 1, 0, none⟩ = some (.slice (some ⟨w.heap.size + 1 + 1 + 1, 0, none⟩) x.fRefs.length x.fRefs.length) := blk_cell hO2 0
  have pf0 := blk_frozen hO2 0
  have po1 : w2.cell? ⟨w.heap.size + 1 + 1, 1, none⟩ = some (.slice none 0 0) := blk_cell hO2 1
  have pf1 := blk_frozen hO2 1
  have pr0 : w2.cell? ⟨w.heap.size + 1, 0, none⟩ = some (.slice none 0 0) := blk_cell hR2 0
  have pg0 := blk_frozen hR2 0
  have pr1 : w2.cell? ⟨w.heap.size + 1, 1, none⟩ = some (.slice none 0 0) := blk_cell hR2 1
  have pg1 := blk_frozen hR2 1
  go_wp2
  refine bodyPost_ret (v := .agg #[.slice (some ⟨w.heap.size + 1 + 1 + 1, 0, none⟩) x.fRefs.length x.fRefs.length, .slice (some ⟨w1.heap.size, 0, none⟩) x.fLast.length x.fLast.length]) (by simp [results, Try.results73, go_sem, pr0, pr1]) rfl ?_
  refine ⟨_, rfl, ⟨_, _, _, _, rfl, ?q0, ?q1, ?q0_1⟩, ?_⟩
  case q0 =>
    refine RowO.mono (((ro0.set ?_ _).set ?_ _).set ?_ _) ?_ ?_
    all_goals (first | omega | (simp; done) | (simp; omega))
  case q1 =>
    refine RowO.mono (((ro1.set ?_ _).set ?_ _).set ?_ _) ?_ ?_
    all_goals (first | omega | (simp; done) | (simp; omega))
  case q0_1 => exact Apart.of_lt (m := w1.heap.size) (fun g hg => (ro0.lt g hg).2.1) (fun g hg => by have := (ro1.lt g hg).1; first | exact this | omega | (simp at this; omega))
  refine (Below.setCell (Below.setCell (Below.setCell hb2 ?_ _) ?_ _) ?_ _)
  all_goals (first | omega | (simp; done) | (simp; omega))

set_option maxHeartbeats 400000 in
set_option maxRecDepth 100000 in
theorem eqSpace_yes (u v : Value) (x : SpaceD) (w : World) (hf : x.Fit) (hr : SpaceD.Reads w u x) (hs : SpaceD.Reads w v x) :
    Calls Try.prog 79 #[u, v] w fun e w' => e = .returned (.bool true) ∧ Below w.heap.size w w' := by
  obtain ⟨a0, c0, a1, c1, rfl, r0, r1⟩ := hr
  obtain ⟨b0, d0, b1, d1, rfl, s0, s1⟩ := hs
  have hb0 : Below w.heap.size w ((w.alloc (.cells #[.slice a0 x.fRefs.length c0, .slice a1 x.fLast.length c1] 65)).alloc (.cells #[.slice b0 x.fRefs.length d0, .slice b1 x.fLast.length d1] 65)) := ((Below.refl _ _).alloc (Nat.le_refl _) _).alloc (by simp) _
  have hA0 : ((w.alloc (.cells #[.slice a0 x.fRefs.length c0, .slice a1 x.fLast.length c1] 65)).alloc (.cells #[.slice b0 x.fRefs.length d0, .slice b1 x.fLast.length d1] 65)).heap[w.heap.size]? = some (.cells #[.slice a0 x.fRefs.length c0, .slice a1 x.fLast.length c1] 65 (0, 0)) := blk_alloc (blk_new w _ _ rfl) _
  have hB0 : ((w.alloc (.cells #[.slice a0 x.fRefs.length c0, .slice a1 x.fLast.length c1] 65)).alloc (.cells #[.slice b0 x.fRefs.length d0, .slice b1 x.fLast.length d1] 65)).heap[w.heap.size + 1]? = some (.cells #[.slice b0 x.fRefs.length d0, .slice b1 x.fLast.length d1] 65 (0, 0)) := blk_new _ _ (w.heap.size + 1) (by simp)
  go_enter Try.func79, Try.ntmps79
  go_wp2_with fail
  refine (eqIntS_yes _ _ _ _ _ x.fRefs _ hf.f0 (r0.below hb0) (s0.below hb0)).mono ?_
  rintro e w1 ⟨rfl, b1⟩
  have hb1 := hb0.trans (b1.mono hb0.size)
  have hA1 := blk_below hA0 b1 (Nat.le_refl _)
  have hB1 := blk_below hB0 b1 (Nat.le_refl _)
  clear b1 hA0 hB0
  have p1 : w1.cell? ⟨w.heap.size, 1, none⟩ = some (.slice a1 x.fLast.length c1) := blk_cell hA1 1
  have q1 : w1.cell? ⟨w.heap.size + 1, 1, none⟩ = some (.slice b1 x.fLast.length d1) := blk_cell hB1 1
  go_wp2_with fail
  refine (eqIntS_yes _ _ _ _ _ x.fLast _ hf.f1 (r1.below hb1) (s1.below hb1)).mono ?_
  rintro e w2 ⟨rfl, b2⟩
  have hb2 := hb1.trans (b2.mono hb1.size)
  have hA2 := blk_below hA1 b2 (Nat.le_refl _)
  have hB2 := blk_below hB1 b2 (Nat.le_refl _)
  clear b2 hA1 hB1
  clear p1 q1
  go_wp2
  go_ret
  exact ⟨rfl, hb2⟩

end Go.Proofs.Ytkgmilobmbeplaa
