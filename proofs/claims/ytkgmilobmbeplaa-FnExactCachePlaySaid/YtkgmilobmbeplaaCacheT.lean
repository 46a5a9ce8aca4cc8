/- The laws' helpers over caches. -/
import Derived.Test.YtkgmilobmbeplaaRows
import Derived.Test.YtkgmilobmbeplaaPrim
import Derived.StillTailTactics
import Derived.BigQuiet
import Derived.Deep.QuietTactic
import Derived.Deep.RegionWith
namespace Go.Proofs.Ytkgmilobmbeplaa
open Go.RowKit

structure CacheD where
  fRoom : Int
  fGoal : Int
  fOnce : List Int
  fOften : List Int
  fPast : List Int
  fFormer : List Int
def CacheD.Reads (w : World) (v : Value) (x : CacheD) : Prop := ∃ (a2 : Option Addr) (c2 : Nat) (a3 : Option Addr) (c3 : Nat) (a4 : Option Addr) (c4 : Nat) (a5 : Option Addr) (c5 : Nat), v = .agg #[.int .i64 x.fRoom, .int .i64 x.fGoal, .slice a2 x.fOnce.length c2, .slice a3 x.fOften.length c3, .slice a4 x.fPast.length c4, .slice a5 x.fFormer.length c5] ∧ Rd encI 1 w a2 x.fOnce.length x.fOnce ∧ Rd encI 1 w a3 x.fOften.length x.fOften ∧ Rd encI 1 w a4 x.fPast.length x.fPast ∧ Rd encI 1 w a5 x.fFormer.length x.fFormer
def CacheD.Own (w : World) (B B1 : Nat) (v : Value) (x : CacheD) : Prop := ∃ (a2 : Option Addr) (c2 : Nat) (a3 : Option Addr) (c3 : Nat) (a4 : Option Addr) (c4 : Nat) (a5 : Option Addr) (c5 : Nat), v = .agg #[.int .i64 x.fRoom, .int .i64 x.fGoal, .slice a2 x.fOnce.length c2, .slice a3 x.fOften.length c3, .slice a4 x.fPast.length c4, .slice a5 x.fFormer.length c5] ∧ RowO encI 1 3 w B B1 (.slice a2 x.fOnce.length c2) x.fOnce ∧ RowO encI 1 3 w B B1 (.slice a3 x.fOften.length c3) x.fOften ∧ RowO encI 1 3 w B B1 (.slice a4 x.fPast.length c4) x.fPast ∧ RowO encI 1 3 w B B1 (.slice a5 x.fFormer.length c5) x.fFormer ∧ Apart (.slice a2 x.fOnce.length c2) (.slice a3 x.fOften.length c3) ∧ Apart (.slice a2 x.fOnce.length c2) (.slice a4 x.fPast.length c4) ∧ Apart (.slice a2 x.fOnce.length c2) (.slice a5 x.fFormer.length c5) ∧ Apart (.slice a3 x.fOften.length c3) (.slice a4 x.fPast.length c4) ∧ Apart (.slice a3 x.fOften.length c3) (.slice a5 x.fFormer.length c5) ∧ Apart (.slice a4 x.fPast.length c4) (.slice a5 x.fFormer.length c5)
theorem CacheD.Reads.below {w w' : World} {v : Value} {x : CacheD} (h : CacheD.Reads w v x) (hb : Below w.heap.size w w') : CacheD.Reads w' v x := by
  obtain ⟨a2, c2, a3, c3, a4, c4, a5, c5, rfl, r2, r3, r4, r5⟩ := h
  exact ⟨a2, c2, a3, c3, a4, c4, a5, c5, rfl, r2.below hb, r3.below hb, r4.below hb, r5.below hb⟩
theorem CacheD.Own.rd {w : World} {B B1 : Nat} {v : Value} {x : CacheD} (h : CacheD.Own w B B1 v x) : CacheD.Reads w v x := by
  obtain ⟨a2, c2, a3, c3, a4, c4, a5, c5, rfl, r2, r3, r4, r5, p2_3, p2_4, p2_5, p3_4, p3_5, p4_5⟩ := h
  obtain ⟨u2, e2, k2, d2⟩ := r2.rd encI_len
  simp only [Value.slice.injEq, true_and] at k2
  obtain ⟨rfl, rfl⟩ := k2
  obtain ⟨u3, e3, k3, d3⟩ := r3.rd encI_len
  simp only [Value.slice.injEq, true_and] at k3
  obtain ⟨rfl, rfl⟩ := k3
  obtain ⟨u4, e4, k4, d4⟩ := r4.rd encI_len
  simp only [Value.slice.injEq, true_and] at k4
  obtain ⟨rfl, rfl⟩ := k4
  obtain ⟨u5, e5, k5, d5⟩ := r5.rd encI_len
  simp only [Value.slice.injEq, true_and] at k5
  obtain ⟨rfl, rfl⟩ := k5
  exact ⟨_, _, _, _, _, _, _, _, rfl, d2, d3, d4, d5⟩
theorem CacheD.Own.below {w : World} {B B1 : Nat} {v : Value} {x : CacheD} (h : CacheD.Own w B B1 v x) {w' : World} {C : Nat} (hb : Below C w w') (hC : w.heap.size ≤ C) : CacheD.Own w' B B1 v x := by
  obtain ⟨a2, c2, a3, c3, a4, c4, a5, c5, rfl, r2, r3, r4, r5, p2_3, p2_4, p2_5, p3_4, p3_5, p4_5⟩ := h
  exact ⟨a2, c2, a3, c3, a4, c4, a5, c5, rfl, r2.below hb hC, r3.below hb hC, r4.below hb hC, r5.below hb hC, p2_3, p2_4, p2_5, p3_4, p3_5, p4_5⟩
theorem CacheD.Own.mono {w : World} {B B1 : Nat} {v : Value} {x : CacheD} (h : CacheD.Own w B B1 v x) {B' B1' : Nat} (hB : B' ≤ B) (hB1 : B1 ≤ B1') : CacheD.Own w B' B1' v x := by
  obtain ⟨a2, c2, a3, c3, a4, c4, a5, c5, rfl, r2, r3, r4, r5, p2_3, p2_4, p2_5, p3_4, p3_5, p4_5⟩ := h
  exact ⟨a2, c2, a3, c3, a4, c4, a5, c5, rfl, r2.mono hB hB1, r3.mono hB hB1, r4.mono hB hB1, r5.mono hB hB1, p2_3, p2_4, p2_5, p3_4, p3_5, p4_5⟩
theorem CacheD.Own.outside {w : World} {B B1 : Nat} {v : Value} {x : CacheD} (h : CacheD.Own w B B1 v x) {w' : World} {C C1 : Nat} (ho : Outside C C1 w w') (hap : B1 ≤ C ∨ C1 ≤ B) : CacheD.Own w' B B1 v x := by
  obtain ⟨a2, c2, a3, c3, a4, c4, a5, c5, rfl, r2, r3, r4, r5, p2_3, p2_4, p2_5, p3_4, p3_5, p4_5⟩ := h
  exact ⟨a2, c2, a3, c3, a4, c4, a5, c5, rfl, r2.outside ho hap, r3.outside ho hap, r4.outside ho hap, r5.outside ho hap, p2_3, p2_4, p2_5, p3_4, p3_5, p4_5⟩
theorem CacheD.Own.set {w : World} {B B1 : Nat} {v : Value} {x : CacheD} (h : CacheD.Own w B B1 v x) {p : Addr} (hp : p.block < B) (u : Value) : CacheD.Own (w.setCell p u) B B1 v x := by
  obtain ⟨a2, c2, a3, c3, a4, c4, a5, c5, rfl, r2, r3, r4, r5, p2_3, p2_4, p2_5, p3_4, p3_5, p4_5⟩ := h
  exact ⟨a2, c2, a3, c3, a4, c4, a5, c5, rfl, r2.set hp u, r3.set hp u, r4.set hp u, r5.set hp u, p2_3, p2_4, p2_5, p3_4, p3_5, p4_5⟩
def CacheD.bulk (x : CacheD) : Nat := x.fOnce.length + x.fOften.length + x.fPast.length + x.fFormer.length
structure CacheD.Small (x : CacheD) : Prop where
  s2_0 : x.fOnce.length ≤ 9223372036854775807
  s3_0 : x.fOften.length ≤ 9223372036854775807
  s4_0 : x.fPast.length ≤ 9223372036854775807
  s5_0 : x.fFormer.length ≤ 9223372036854775807
structure CacheD.Fit (x : CacheD) : Prop where
  f2 : x.fOnce.length ≤ 1048576
  f3 : x.fOften.length ≤ 1048576
  f4 : x.fPast.length ≤ 1048576
  f5 : x.fFormer.length ≤ 1048576
theorem CacheD.fit {x : CacheD} (h : x.bulk ≤ 1048576) : x.Fit := by
  unfold CacheD.bulk at h
  exact ⟨by omega, by omega, by omega, by omega⟩

set_option maxHeartbeats 400000 in
set_option maxRecDepth 100000 in
theorem szCache_any (v : Value) (x : CacheD) (l : Int) (w : World) (hl0 : 0 ≤ l) (hl1 : l ≤ 1048576) (hr : CacheD.Reads w v x) (hs : x.Small) :
    Calls Try.prog 21 #[v, .int .i64 l] w fun e w' => e = .returned (.int .i64 (leftOf l x.bulk)) ∧ Below w.heap.size w w' := by
  obtain ⟨a2, c2, a3, c3, a4, c4, a5, c5, rfl, r2, r3, r4, r5⟩ := hr
  have hbA : Below w.heap.size w (w.alloc (.cells #[.int .i64 x.fRoom, .int .i64 x.fGoal, .slice a2 x.fOnce.length c2, .slice a3 x.fOften.length c3, .slice a4 x.fPast.length c4, .slice a5 x.fFormer.length c5] 46)) := (Below.refl _ _).alloc (Nat.le_refl _) _
  have hA0 := blk_new w (.cells #[.int .i64 x.fRoom, .int .i64 x.fGoal, .slice a2 x.fOnce.length c2, .slice a3 x.fOften.length c3, .slice a4 x.fPast.length c4, .slice a5 x.fFormer.length c5] 46) _ rfl
  obtain ⟨t0, ht0⟩ : ∃ t : Nat, t = x.fOnce.length := ⟨_, rfl⟩
  obtain ⟨t1, ht1⟩ : ∃ t : Nat, t = x.fOften.length := ⟨_, rfl⟩
  obtain ⟨t2, ht2⟩ : ∃ t : Nat, t = x.fPast.length := ⟨_, rfl⟩
  obtain ⟨t3, ht3⟩ : ∃ t : Nat, t = x.fFormer.length := ⟨_, rfl⟩
  have HB : Hid (x.bulk = t0 + t1 + t2 + t3) := by
    show x.bulk = _
    simp only [ht0, ht1, ht2, ht3]
    unfold CacheD.bulk
    omega
  have HT0 := Lib.hid ht0
  clear ht0
  have HT1 := Lib.hid ht1
  clear ht1
  have HT2 := Lib.hid ht2
  clear ht2
  have HT3 := Lib.hid ht3
  clear ht3
  go_enter Try.func21, Try.ntmps21
  go_wp2_with fail
  refine (szIntS_any _ _ _ _ _ (by omega) (by omega) hs.s2_0).mono ?_
  rintro e w1 ⟨rfl, b1⟩
  rw [← HT0.out]
  have hA1 := blk_below hA0 b1 (Nat.le_refl _)
  have hb1 := hbA.trans (b1.mono hbA.size)
  clear b1 hA0
  by_cases g0 : l < (t0 : Int)
  · rw [leftOf_no g0]
    go_wp2
    go_ret
    exact ⟨ret_int (by rw [HB.out, leftOf_no (by omega)]), hb1⟩
  rw [leftOf_yes (Int.not_lt.1 g0)]
  have p3 : w1.cell? ⟨w.heap.size, 3, none⟩ = some (.slice a3 x.fOften.length c3) := blk_cell hA1 3
  go_wp2_with fail
  refine (szIntS_any _ _ _ _ _ (by omega) (by omega) hs.s3_0).mono ?_
  rintro e w2 ⟨rfl, b2⟩
  rw [← HT1.out]
  have hA2 := blk_below hA1 b2 (Nat.le_refl _)
  have hb2 := hb1.trans (b2.mono hb1.size)
  clear b2 hA1
  by_cases g1 : l - t0 < (t1 : Int)
  · rw [leftOf_no g1]
    go_wp2
    go_ret
    exact ⟨ret_int (by rw [HB.out, leftOf_no (by omega)]), hb2⟩
  rw [leftOf_yes (Int.not_lt.1 g1)]
  have p4 : w2.cell? ⟨w.heap.size, 4, none⟩ = some (.slice a4 x.fPast.length c4) := blk_cell hA2 4
  go_wp2_with fail
  refine (szIntS_any _ _ _ _ _ (by omega) (by omega) hs.s4_0).mono ?_
  rintro e w3 ⟨rfl, b3⟩
  rw [← HT2.out]
  have hA3 := blk_below hA2 b3 (Nat.le_refl _)
  have hb3 := hb2.trans (b3.mono hb2.size)
  clear b3 hA2
  by_cases g2 : l - t0 - t1 < (t2 : Int)
  · rw [leftOf_no g2]
    go_wp2
    go_ret
    exact ⟨ret_int (by rw [HB.out, leftOf_no (by omega)]), hb3⟩
  rw [leftOf_yes (Int.not_lt.1 g2)]
  have p5 : w3.cell? ⟨w.heap.size, 5, none⟩ = some (.slice a5 x.fFormer.length c5) := blk_cell hA3 5
  go_wp2_with fail
  refine (szIntS_any _ _ _ _ _ (by omega) (by omega) hs.s5_0).mono ?_
  rintro e w4 ⟨rfl, b4⟩
  rw [← HT3.out]
  have hA4 := blk_below hA3 b4 (Nat.le_refl _)
  have hb4 := hb3.trans (b4.mono hb3.size)
  clear b4 hA3
  by_cases g3 : l - t0 - t1 - t2 < (t3 : Int)
  · rw [leftOf_no g3]
    go_wp2
    go_ret
    exact ⟨ret_int (by rw [HB.out, leftOf_no (by omega)]), hb4⟩
  rw [leftOf_yes (Int.not_lt.1 g3)]
  go_wp2
  go_ret
  exact ⟨ret_int (by rw [HB.out, leftOf_yes (by omega)]; omega), hb4⟩

set_option maxHeartbeats 400000 in
set_option maxRecDepth 100000 in
theorem toCache_any (v : Value) (x : CacheD) (w : World) (hf : x.Fit) (hr : CacheD.Reads w v x) :
    Calls Try.prog 23 #[v] w fun e w' => ∃ v', e = .returned v' ∧ CacheD.Own w' w.heap.size w'.heap.size v' x ∧ Below w.heap.size w w' := by
  obtain ⟨a2, c2, a3, c3, a4, c4, a5, c5, rfl, r2, r3, r4, r5⟩ := hr
  go_enter Try.func23, Try.ntmps23
  go_wp2_with fail
  have hb0 : Below w.heap.size w (((w.alloc (.cells #[.int .i64 x.fRoom, .int .i64 x.fGoal, .slice a2 x.fOnce.length c2, .slice a3 x.fOften.length c3, .slice a4 x.fPast.length c4, .slice a5 x.fFormer.length c5] 46)).alloc (.cells #[.int .i64 0, .int .i64 0, .slice none 0 0, .slice none 0 0, .slice none 0 0, .slice none 0 0] 48)).alloc (.cells #[.int .i64 x.fRoom, .int .i64 x.fGoal, .slice none 0 0, .slice none 0 0, .slice none 0 0, .slice none 0 0] 48)) := (((Below.refl _ _).alloc (Nat.le_refl _) _).alloc (by simp) _).alloc (by simp; omega) _
  have hA0 : (((w.alloc (.cells #[.int .i64 x.fRoom, .int .i64 x.fGoal, .slice a2 x.fOnce.length c2, .slice a3 x.fOften.length c3, .slice a4 x.fPast.length c4, .slice a5 x.fFormer.length c5] 46)).alloc (.cells #[.int .i64 0, .int .i64 0, .slice none 0 0, .slice none 0 0, .slice none 0 0, .slice none 0 0] 48)).alloc (.cells #[.int .i64 x.fRoom, .int .i64 x.fGoal, .slice none 0 0, .slice none 0 0, .slice none 0 0, .slice none 0 0] 48)).heap[w.heap.size]? = some (.cells #[.int .i64 x.fRoom, .int .i64 x.fGoal, .slice a2 x.fOnce.length c2, .slice a3 x.fOften.length c3, .slice a4 x.fPast.length c4, .slice a5 x.fFormer.length c5] 46 (0, 0)) := blk_alloc (blk_alloc (blk_new w _ _ rfl) _) _
  have hR0 : (((w.alloc (.cells #[.int .i64 x.fRoom, .int .i64 x.fGoal, .slice a2 x.fOnce.length c2, .slice a3 x.fOften.length c3, .slice a4 x.fPast.length c4, .slice a5 x.fFormer.length c5] 46)).alloc (.cells #[.int .i64 0, .int .i64 0, .slice none 0 0, .slice none 0 0, .slice none 0 0, .slice none 0 0] 48)).alloc (.cells #[.int .i64 x.fRoom, .int .i64 x.fGoal, .slice none 0 0, .slice none 0 0, .slice none 0 0, .slice none 0 0] 48)).heap[w.heap.size + 1]? = some (.cells #[.int .i64 0, .int .i64 0, .slice none 0 0, .slice none 0 0, .slice none 0 0, .slice none 0 0] 48 (0, 0)) := blk_alloc (blk_new _ _ (w.heap.size + 1) (by simp)) _
  have hO0 : (((w.alloc (.cells #[.int .i64 x.fRoom, .int .i64 x.fGoal, .slice a2 x.fOnce.length c2, .slice a3 x.fOften.length c3, .slice a4 x.fPast.length c4, .slice a5 x.fFormer.length c5] 46)).alloc (.cells #[.int .i64 0, .int .i64 0, .slice none 0 0, .slice none 0 0, .slice none 0 0, .slice none 0 0] 48)).alloc (.cells #[.int .i64 x.fRoom, .int .i64 x.fGoal, .slice none 0 0, .slice none 0 0, .slice none 0 0, .slice none 0 0] 48)).heap[w.heap.size + 1 + 1]? = some (.cells #[.int .i64 x.fRoom, .int .i64 x.fGoal, .slice none 0 0, .slice none 0 0, .slice none 0 0, .slice none 0 0] 48 (0, 0)) := blk_new _ _ (w.heap.size + 1 + 1) (by simp)
  have hz0 : w.heap.size + 1 + 1 < (((w.alloc (.cells #[.int .i64 x.fRoom, .int .i64 x.fGoal, .slice a2 x.fOnce.length c2, .slice a3 x.fOften.length c3, .slice a4 x.fPast.length c4, .slice a5 x.fFormer.length c5] 46)).alloc (.cells #[.int .i64 0, .int .i64 0, .slice none 0 0, .slice none 0 0, .slice none 0 0, .slice none 0 0] 48)).alloc (.cells #[.int .i64 x.fRoom, .int .i64 x.fGoal, .slice none 0 0, .slice none 0 0, .slice none 0 0, .slice none 0 0] 48)).heap.size := blk_lt hO0
  refine (toIntS_any _ _ _ x.fOnce _ hf.f2 (r2.below hb0)).mono ?_
  rintro e w1 ⟨rfl, on2, b1⟩
  have ro2 : RowO encI 1 3 w1 _ w1.heap.size _ x.fOnce := RowO.mk on2 (fun g hg => (on2.lt g hg).2)
  try simp only [sz_alloc, sz_set] at ro2
  clear on2
  have hbW := hb0
  have hb1 := hbW.trans (b1.mono hbW.size)
  have hA1 : w1.heap[w.heap.size]? = some (.cells #[.int .i64 x.fRoom, .int .i64 x.fGoal, .slice a2 x.fOnce.length c2, .slice a3 x.fOften.length c3, .slice a4 x.fPast.length c4, .slice a5 x.fFormer.length c5] 46 (0, 0)) := blk_below hA0 b1 (Nat.le_refl _)
  have hR1 : w1.heap[w.heap.size + 1]? = some (.cells #[.int .i64 0, .int .i64 0, .slice none 0 0, .slice none 0 0, .slice none 0 0, .slice none 0 0] 48 (0, 0)) := blk_below hR0 b1 (Nat.le_refl _)
  have hO1 : w1.heap[w.heap.size + 1 + 1]? = some (.cells #[.int .i64 x.fRoom, .int .i64 x.fGoal, .slice none 0 0, .slice none 0 0, .slice none 0 0, .slice none 0 0] 48 (0, 0)) := blk_below hO0 b1 (Nat.le_refl _)
  have hz1 : w.heap.size + 1 + 1 < w1.heap.size := blk_lt hO1
  have hs1 := b1.size
  try simp only [sz_alloc, sz_set] at hs1
  clear b1 hbW hA0 hR0 hO0
  have pa3 : w1.cell? ⟨w.heap.size, 3, none⟩ = some (.slice a3 x.fOften.length c3) := blk_cell hA1 3
  have po2 : w1.cell? ⟨w.heap.size + 1 + 1, 2, none⟩ = some (.slice none 0 0) := blk_cell hO1 2
  have pf2 := blk_frozen hO1 2
  go_wp2_with fail
  refine (toIntS_any _ _ _ x.fOften _ hf.f3 (r3.below (hb1.setCell (p := ⟨w.heap.size + 1 + 1, 2, none⟩) (by simp; try omega) (.slice (some ⟨w.heap.size + 1 + 1 + 1, 0, none⟩) x.fOnce.length x.fOnce.length)))).mono ?_
  rintro e w2 ⟨rfl, on3, b2⟩
  have ro3 : RowO encI 1 3 w2 _ w2.heap.size _ x.fOften := RowO.mk on3 (fun g hg => (on3.lt g hg).2)
  try simp only [sz_alloc, sz_set] at ro3
  clear on3
  have hbW := (hb1.setCell (p := ⟨w.heap.size + 1 + 1, 2, none⟩) (by simp; try omega) (.slice (some ⟨w.heap.size + 1 + 1 + 1, 0, none⟩) x.fOnce.length x.fOnce.length))
  have hb2 := hbW.trans (b2.mono hbW.size)
  have hA2 : w2.heap[w.heap.size]? = some (.cells #[.int .i64 x.fRoom, .int .i64 x.fGoal, .slice a2 x.fOnce.length c2, .slice a3 x.fOften.length c3, .slice a4 x.fPast.length c4, .slice a5 x.fFormer.length c5] 46 (0, 0)) := blk_below (blk_set_other hA1 (p := ⟨w.heap.size + 1 + 1, 2, none⟩) (by simp; try omega) _) b2 (Nat.le_refl _)
  have hR2 : w2.heap[w.heap.size + 1]? = some (.cells #[.int .i64 0, .int .i64 0, .slice none 0 0, .slice none 0 0, .slice none 0 0, .slice none 0 0] 48 (0, 0)) := blk_below (blk_set_other hR1 (p := ⟨w.heap.size + 1 + 1, 2, none⟩) (by simp; try omega) _) b2 (Nat.le_refl _)
  have hO2 : w2.heap[w.heap.size + 1 + 1]? = some (.cells #[.int .i64 x.fRoom, .int .i64 x.fGoal, .slice (some ⟨w.heap.size + 1 + 1 + 1, 0, none⟩) x.fOnce.length x.fOnce.length, .slice none 0 0, .slice none 0 0, .slice none 0 0] 48 (0, 0)) := blk_below (blk_set hO1 (i := 2) _) b2 (Nat.le_refl _)
  have hz2 : w.heap.size + 1 + 1 < w2.heap.size := blk_lt hO2
  have ro2 := RowO.below (ro2.set (p := ⟨w.heap.size + 1 + 1, 2, none⟩) (by simp; try omega) (.slice (some ⟨w.heap.size + 1 + 1 + 1, 0, none⟩) x.fOnce.length x.fOnce.length)) b2 (Nat.le_refl _)
  have hs2 := b2.size
  try simp only [sz_alloc, sz_set] at hs2
  clear b2 hbW hA1 hR1 hO1
  clear pa3 po2 pf2
  have pa4 : w2.cell? ⟨w.heap.size, 4, none⟩ = some (.slice a4 x.fPast.length c4) := blk_cell hA2 4
  have po3 : w2.cell? ⟨w.heap.size + 1 + 1, 3, none⟩ = some (.slice none 0 0) := blk_cell hO2 3
  have pf3 := blk_frozen hO2 3
  go_wp2_with fail
  refine (toIntS_any _ _ _ x.fPast _ hf.f4 (r4.below (hb2.setCell (p := ⟨w.heap.size + 1 + 1, 3, none⟩) (by simp; try omega) (.slice (some ⟨w1.heap.size, 0, none⟩) x.fOften.length x.fOften.length)))).mono ?_
  rintro e w3 ⟨rfl, on4, b3⟩
  have ro4 : RowO encI 1 3 w3 _ w3.heap.size _ x.fPast := RowO.mk on4 (fun g hg => (on4.lt g hg).2)
  try simp only [sz_alloc, sz_set] at ro4
  clear on4
  have hbW := (hb2.setCell (p := ⟨w.heap.size + 1 + 1, 3, none⟩) (by simp; try omega) (.slice (some ⟨w1.heap.size, 0, none⟩) x.fOften.length x.fOften.length))
  have hb3 := hbW.trans (b3.mono hbW.size)
  have hA3 : w3.heap[w.heap.size]? = some (.cells #[.int .i64 x.fRoom, .int .i64 x.fGoal, .slice a2 x.fOnce.length c2, .slice a3 x.fOften.length c3, .slice a4 x.fPast.length c4, .slice a5 x.fFormer.length c5] 46 (0, 0)) := blk_below (blk_set_other hA2 (p := ⟨w.heap.size + 1 + 1, 3, none⟩) (by simp; try omega) _) b3 (Nat.le_refl _)
  have hR3 : w3.heap[w.heap.size + 1]? = some (.cells #[.int .i64 0, .int .i64 0, .slice none 0 0, .slice none 0 0, .slice none 0 0, .slice none 0 0] 48 (0, 0)) := blk_below (blk_set_other hR2 (p := ⟨w.heap.size + 1 + 1, 3, none⟩) (by simp; try omega) _) b3 (Nat.le_refl _)
  have hO3 : w3.heap[w.heap.size + 1 + 1]? = some (.cells #[.int .i64 x.fRoom, .int .i64 x.fGoal, .slice (some ⟨w.heap.size + 1 + 1 + 1, 0, none⟩) x.fOnce.length x.fOnce.length, .slice (some ⟨w1.heap.size, 0, none⟩) x.fOften.length x.fOften.length, .slice none 0 0, .slice none 0 0] 48 (0, 0)) := blk_below (blk_set hO2 (i := 3) _) b3 (Nat.le_refl _)
  have hz3 : w.heap.size + 1 + 1 < w3.heap.size := blk_lt hO3
  have ro2 := RowO.below (ro2.set (p := ⟨w.heap.size + 1 + 1, 3, none⟩) (by simp; try omega) (.slice (some ⟨w1.heap.size, 0, none⟩) x.fOften.length x.fOften.length)) b3 (Nat.le_refl _)
  have ro3 := RowO.below (ro3.set (p := ⟨w.heap.size + 1 + 1, 3, none⟩) (by simp; try omega) (.slice (some ⟨w1.heap.size, 0, none⟩) x.fOften.length x.fOften.length)) b3 (Nat.le_refl _)
  have hs3 := b3.size
  try simp only [sz_alloc, sz_set] at hs3
  clear b3 hbW hA2 hR2 hO2
  clear pa4 po3 pf3
  have pa5 : w3.cell? ⟨w.heap.size, 5, none⟩ = some (.slice a5 x.fFormer.length c5) := blk_cell hA3 5
  have po4 : w3.cell? ⟨w.heap.size + 1 + 1, 4, none⟩ = some (.slice none 0 0) := blk_cell hO3 4
  have pf4 := blk_frozen hO3 4
  go_wp2_with fail
  refine (toIntS_any _ _ _ x.fFormer _ hf.f5 (r5.below (hb3.setCell (p := ⟨w.heap.size + 1 + 1, 4, none⟩) (by simp; try omega) (.slice (some ⟨w2.heap.size, 0, none⟩) x.fPast.length x.fPast.length)))).mono ?_
  rintro e w4 ⟨rfl, on5, b4⟩
  have ro5 : RowO encI 1 3 w4 _ w4.heap.size _ x.fFormer := RowO.mk on5 (fun g hg => (on5.lt g hg).2)
  try simp only [sz_alloc, sz_set] at ro5
  clear on5
  have hbW := (hb3.setCell (p := ⟨w.heap.size + 1 + 1, 4, none⟩) (by simp; try omega) (.slice (some ⟨w2.heap.size, 0, none⟩) x.fPast.length x.fPast.length))
  have hb4 := hbW.trans (b4.mono hbW.size)
  have hA4 : w4.heap[w.heap.size]? = some (.cells #[.int .i64 x.fRoom, .int .i64 x.fGoal, .slice a2 x.fOnce.length c2, .slice a3 x.fOften.length c3, .slice a4 x.fPast.length c4, .slice a5 x.fFormer.length c5] 46 (0, 0)) := blk_below (blk_set_other hA3 (p := ⟨w.heap.size + 1 + 1, 4, none⟩) (by simp; try omega) _) b4 (Nat.le_refl _)
  have hR4 : w4.heap[w.heap.size + 1]? = some (.cells #[.int .i64 0, .int .i64 0, .slice none 0 0, .slice none 0 0, .slice none 0 0, .slice none 0 0] 48 (0, 0)) := blk_below (blk_set_other hR3 (p := ⟨w.heap.size + 1 + 1, 4, none⟩) (by simp; try omega) _) b4 (Nat.le_refl _)
  have hO4 : w4.heap[w.heap.size + 1 + 1]? = some (.cells #[.int .i64 x.fRoom, .int .i64 x.fGoal, .slice (some ⟨w.heap.size + 1 + 1 + 1, 0, none⟩) x.fOnce.length x.fOnce.length, .slice (some ⟨w1.heap.size, 0, none⟩) x.fOften.length x.fOften.length, .slice (some ⟨w2.heap.size, 0, none⟩) x.fPast.length x.fPast.length, .slice none 0 0] 48 (0, 0)) := blk_below (blk_set hO3 (i := 4) _) b4 (Nat.le_refl _)
  have hz4 : w.heap.size + 1 + 1 < w4.heap.size := blk_lt hO4
  have ro2 := RowO.below (ro2.set (p := ⟨w.heap.size + 1 + 1, 4, none⟩) (by simp; try omega) (.slice (some ⟨w2.heap.size, 0, none⟩) x.fPast.length x.fPast.length)) b4 (Nat.le_refl _)
  have ro3 := RowO.below (ro3.set (p := ⟨w.heap.size + 1 + 1, 4, none⟩) (by simp; try omega) (.slice (some ⟨w2.heap.size, 0, none⟩) x.fPast.length x.fPast.length)) b4 (Nat.le_refl _)
  have ro4 := RowO.below (ro4.set (p := ⟨w.heap.size + 1 + 1, 4, none⟩) (by simp; try omega) (.slice (some ⟨w2.heap.size, 0, none⟩) x.fPast.length x.fPast.length)) b4 (Nat.le_refl _)
  have hs4 := b4.size
  try simp only [sz_alloc, sz_set] at hs4
  clear b4 hbW hA3 hR3 hO3
  clear pa5 po4 pf4
  have po0 : w4.cell? ⟨w.heap.size + 1 + 1, 0, none⟩ = some (.int .i64 x.fRoom) := blk_cell hO4 0
  have pf0 := blk_frozen hO4 0
  have po1 : w4.cell? ⟨w.heap.size + 1 + 1, 1, none⟩ = some (.int .i64 x.fGoal) := blk_cell hO4 1
  have pf1 := blk_frozen hO4 1
  have po2 : w4.cell? ⟨w.heap.size + 1 + 1, 2, none⟩ = some (.slice (some ⟨w.heap.size + 1 + 1 + 1, 0, none⟩) x.fOnce.length x.fOnce.length) := blk_cell hO4 2
  have pf2 := blk_frozen hO4 2
  have po3 : w4.cell? ⟨w.heap.size + 1 + 1, 3, none⟩ = some (.slice (some ⟨w1.heap.size, 0, none⟩) x.fOften.length x.fOften.length) := blk_cell hO4 3
  have pf3 := blk_frozen hO4 3
  have po4 : w4.cell? ⟨w.heap.size + 1 + 1, 4, none⟩ = some (.slice (some ⟨w2.heap.size, 0, none⟩) x.fPast.length x.fPast.length) := blk_cell hO4 4
  have pf4 := blk_frozen hO4 4
  have po5 : w4.cell? ⟨w.heap.size + 1 + 1, 5, none⟩ = some (.slice none 0 0) := blk_cell hO4 5
  have pf5 := blk_frozen hO4 5
  have pr0 : w4.cell? ⟨w.heap.size + 1, 0, none⟩ = some (.int .i64 0) := blk_cell hR4 0
  have pg0 := blk_frozen hR4 0
  have pr1 : w4.cell? ⟨w.heap.size + 1, 1, none⟩ = some (.int .i64 0) := blk_cell hR4 1
  have pg1 := blk_frozen hR4 1
  have pr2 : w4.cell? ⟨w.heap.size + 1, 2, none⟩ = some (.slice none 0 0) := blk_cell hR4 2
  have pg2 := blk_frozen hR4 2
  have pr3 : w4.cell? ⟨w.heap.size + 1, 3, none⟩ = some (.slice none 0 0) := blk_cell hR4 3
  have pg3 := blk_frozen hR4 3
  have pr4 : w4.cell? ⟨w.heap.size + 1, 4, none⟩ = some (.slice none 0 0) := blk_cell hR4 4
  have pg4 := blk_frozen hR4 4
  have pr5 : w4.cell? ⟨w.heap.size + 1, 5, none⟩ = some (.slice none 0 0) := blk_cell hR4 5
  have pg5 := blk_frozen hR4 5
  go_wp2
  refine bodyPost_ret (v := .agg #[.int .i64 x.fRoom, .int .i64 x.fGoal, .slice (some ⟨w.heap.size + 1 + 1 + 1, 0, none⟩) x.fOnce.length x.fOnce.length, .slice (some ⟨w1.heap.size, 0, none⟩) x.fOften.length x.fOften.length, .slice (some ⟨w2.heap.size, 0, none⟩) x.fPast.length x.fPast.length, .slice (some ⟨w3.heap.size, 0, none⟩) x.fFormer.length x.fFormer.length]) (by simp [results, Try.results23, go_sem, pr0, pr1, pr2, pr3, pr4, pr5]) rfl ?_
  refine ⟨_, rfl, ⟨_, _, _, _, _, _, _, _, rfl, ?q2, ?q3, ?q4, ?q5, ?q2_3, ?q2_4, ?q2_5, ?q3_4, ?q3_5, ?q4_5⟩, ?_⟩
  case q2 =>
    refine RowO.mono (((((((ro2.set ?_ _).set ?_ _).set ?_ _).set ?_ _).set ?_ _).set ?_ _).set ?_ _) ?_ ?_
    all_goals (first | omega | (simp; done) | (simp; omega))
  case q3 =>
    refine RowO.mono (((((((ro3.set ?_ _).set ?_ _).set ?_ _).set ?_ _).set ?_ _).set ?_ _).set ?_ _) ?_ ?_
    all_goals (first | omega | (simp; done) | (simp; omega))
  case q4 =>
    refine RowO.mono (((((((ro4.set ?_ _).set ?_ _).set ?_ _).set ?_ _).set ?_ _).set ?_ _).set ?_ _) ?_ ?_
    all_goals (first | omega | (simp; done) | (simp; omega))
  case q5 =>
    refine RowO.mono (((((((ro5.set ?_ _).set ?_ _).set ?_ _).set ?_ _).set ?_ _).set ?_ _).set ?_ _) ?_ ?_
    all_goals (first | omega | (simp; done) | (simp; omega))
  case q2_3 => exact Apart.of_lt (m := w1.heap.size) (fun g hg => (ro2.lt g hg).2.1) (fun g hg => by have := (ro3.lt g hg).1; first | exact this | omega | (simp at this; omega))
  case q2_4 => exact Apart.of_lt (m := w1.heap.size) (fun g hg => (ro2.lt g hg).2.1) (fun g hg => by have := (ro4.lt g hg).1; first | exact this | omega | (simp at this; omega))
  case q2_5 => exact Apart.of_lt (m := w1.heap.size) (fun g hg => (ro2.lt g hg).2.1) (fun g hg => by have := (ro5.lt g hg).1; first | exact this | omega | (simp at this; omega))
  case q3_4 => exact Apart.of_lt (m := w2.heap.size) (fun g hg => (ro3.lt g hg).2.1) (fun g hg => by have := (ro4.lt g hg).1; first | exact this | omega | (simp at this; omega))
  case q3_5 => exact Apart.of_lt (m := w2.heap.size) (fun g hg => (ro3.lt g hg).2.1) (fun g hg => by have := (ro5.lt g hg).1; first | exact this | omega | (simp at this; omega))
  case q4_5 => exact Apart.of_lt (m := w3.heap.size) (fun g hg => (ro4.lt g hg).2.1) (fun g hg => by have := (ro5.lt g hg).1; first | exact this | omega | (simp at this; omega))
  refine (Below.setCell (Below.setCell (Below.setCell (Below.setCell (Below.setCell (Below.setCell (Below.setCell hb4 ?_ _) ?_ _) ?_ _) ?_ _) ?_ _) ?_ _) ?_ _)
  all_goals (first | omega | (simp; done) | (simp; omega))

set_option maxHeartbeats 400000 in
set_option maxRecDepth 100000 in
theorem eqCache_yes (u v : Value) (x : CacheD) (w : World) (hf : x.Fit) (hr : CacheD.Reads w u x) (hs : CacheD.Reads w v x) :
    Calls Try.prog 26 #[u, v] w fun e w' => e = .returned (.bool true) ∧ Below w.heap.size w w' := by
  obtain ⟨a2, c2, a3, c3, a4, c4, a5, c5, rfl, r2, r3, r4, r5⟩ := hr
  obtain ⟨b2, d2, b3, d3, b4, d4, b5, d5, rfl, s2, s3, s4, s5⟩ := hs
  have hb0 : Below w.heap.size w ((w.alloc (.cells #[.int .i64 x.fRoom, .int .i64 x.fGoal, .slice a2 x.fOnce.length c2, .slice a3 x.fOften.length c3, .slice a4 x.fPast.length c4, .slice a5 x.fFormer.length c5] 48)).alloc (.cells #[.int .i64 x.fRoom, .int .i64 x.fGoal, .slice b2 x.fOnce.length d2, .slice b3 x.fOften.length d3, .slice b4 x.fPast.length d4, .slice b5 x.fFormer.length d5] 48)) := ((Below.refl _ _).alloc (Nat.le_refl _) _).alloc (by simp) _
  have hA0 : ((w.alloc (.cells #[.int .i64 x.fRoom, .int .i64 x.fGoal, .slice a2 x.fOnce.length c2, .slice a3 x.fOften.length c3, .slice a4 x.fPast.length c4, .slice a5 x.fFormer.length c5] 48)).alloc (.cells #[.int .i64 x.fRoom, .int .i64 x.fGoal, .slice b2 x.fOnce.length d2, .slice b3 x.fOften.length d3, .slice b4 x.fPast.length d4, .slice b5 x.fFormer.length d5] 48)).heap[w.heap.size]? = some (.cells #[.int .i64 x.fRoom, .int .i64 x.fGoal, .slice a2 x.fOnce.length c2, .slice a3 x.fOften.length c3, .slice a4 x.fPast.length c4, .slice a5 x.fFormer.length c5] 48 (0, 0)) := blk_alloc (blk_new w _ _ rfl) _
  have hB0 : ((w.alloc (.cells #[.int .i64 x.fRoom, .int .i64 x.fGoal, .slice a2 x.fOnce.length c2, .slice a3 x.fOften.length c3, .slice a4 x.fPast.length c4, .slice a5 x.fFormer.length c5] 48)).alloc (.cells #[.int .i64 x.fRoom, .int .i64 x.fGoal, .slice b2 x.fOnce.length d2, .slice b3 x.fOften.length d3, .slice b4 x.fPast.length d4, .slice b5 x.fFormer.length d5] 48)).heap[w.heap.size + 1]? = some (.cells #[.int .i64 x.fRoom, .int .i64 x.fGoal, .slice b2 x.fOnce.length d2, .slice b3 x.fOften.length d3, .slice b4 x.fPast.length d4, .slice b5 x.fFormer.length d5] 48 (0, 0)) := blk_new _ _ (w.heap.size + 1) (by simp)
  go_enter Try.func26, Try.ntmps26
  go_wp2_with fail
  refine (eqIntS_yes _ _ _ _ _ x.fOnce _ hf.f2 (r2.below hb0) (s2.below hb0)).mono ?_
  rintro e w1 ⟨rfl, b1⟩
  have hb1 := hb0.trans (b1.mono hb0.size)
  have hA1 := blk_below hA0 b1 (Nat.le_refl _)
  have hB1 := blk_below hB0 b1 (Nat.le_refl _)
  clear b1 hA0 hB0
  have p3 : w1.cell? ⟨w.heap.size, 3, none⟩ = some (.slice a3 x.fOften.length c3) := blk_cell hA1 3
  have q3 : w1.cell? ⟨w.heap.size + 1, 3, none⟩ = some (.slice b3 x.fOften.length d3) := blk_cell hB1 3
  go_wp2_with fail
  refine (eqIntS_yes _ _ _ _ _ x.fOften _ hf.f3 (r3.below hb1) (s3.below hb1)).mono ?_
  rintro e w2 ⟨rfl, b2⟩
  have hb2 := hb1.trans (b2.mono hb1.size)
  have hA2 := blk_below hA1 b2 (Nat.le_refl _)
  have hB2 := blk_below hB1 b2 (Nat.le_refl _)
  clear b2 hA1 hB1
  clear p3 q3
  have p4 : w2.cell? ⟨w.heap.size, 4, none⟩ = some (.slice a4 x.fPast.length c4) := blk_cell hA2 4
  have q4 : w2.cell? ⟨w.heap.size + 1, 4, none⟩ = some (.slice b4 x.fPast.length d4) := blk_cell hB2 4
  go_wp2_with fail
  refine (eqIntS_yes _ _ _ _ _ x.fPast _ hf.f4 (r4.below hb2) (s4.below hb2)).mono ?_
  rintro e w3 ⟨rfl, b3⟩
  have hb3 := hb2.trans (b3.mono hb2.size)
  have hA3 := blk_below hA2 b3 (Nat.le_refl _)
  have hB3 := blk_below hB2 b3 (Nat.le_refl _)
  clear b3 hA2 hB2
  clear p4 q4
  have p5 : w3.cell? ⟨w.heap.size, 5, none⟩ = some (.slice a5 x.fFormer.length c5) := blk_cell hA3 5
  have q5 : w3.cell? ⟨w.heap.size + 1, 5, none⟩ = some (.slice b5 x.fFormer.length d5) := blk_cell hB3 5
  go_wp2_with fail
  refine (eqIntS_yes _ _ _ _ _ x.fFormer _ hf.f5 (r5.below hb3) (s5.below hb3)).mono ?_
  rintro e w4 ⟨rfl, b4⟩
  have hb4 := hb3.trans (b4.mono hb3.size)
  have hA4 := blk_below hA3 b4 (Nat.le_refl _)
  have hB4 := blk_below hB3 b4 (Nat.le_refl _)
  clear b4 hA3 hB3
  clear p5 q5
  go_wp2
  go_ret
  exact ⟨rfl, hb4⟩

end Go.Proofs.Ytkgmilobmbeplaa
