/- The laws' helpers over what is told of a head or snapshot. -/
import Derived.Test.YtkgmilobmbeplaaRows
import Derived.Test.YtkgmilobmbeplaaFlatT
import Derived.StillTailTactics
import Derived.BigQuiet
import Derived.Deep.QuietTactic
import Derived.Deep.RegionWith
namespace Go.Proofs.Ytkgmilobmbeplaa
open Go.RowKit

structure ToldD where
  fName : ByteArray
  fPrev : ByteArray
  fQuota : Int
  fFlat : FlatD
def ToldD.Reads (w : World) (v : Value) (x : ToldD) : Prop := ∃ (a3 : Option Addr) (c3 : Nat) (a4 : Option Addr) (c4 : Nat), v = .agg #[.string x.fName, .string x.fPrev, .int .i64 x.fQuota, .slice a3 x.fFlat.fNames.length c3, .slice a4 x.fFlat.fThings.length c4] ∧ Rd FoundD.cells 2 w a3 x.fFlat.fNames.length x.fFlat.fNames ∧ Rd ThingD.cells 3 w a4 x.fFlat.fThings.length x.fFlat.fThings
def ToldD.Own (w : World) (B B1 : Nat) (v : Value) (x : ToldD) : Prop := ∃ (a3 : Option Addr) (c3 : Nat) (a4 : Option Addr) (c4 : Nat), v = .agg #[.string x.fName, .string x.fPrev, .int .i64 x.fQuota, .slice a3 x.fFlat.fNames.length c3, .slice a4 x.fFlat.fThings.length c4] ∧ RowO FoundD.cells 2 160 w B B1 (.slice a3 x.fFlat.fNames.length c3) x.fFlat.fNames ∧ RowO ThingD.cells 3 162 w B B1 (.slice a4 x.fFlat.fThings.length c4) x.fFlat.fThings ∧ Apart (.slice a3 x.fFlat.fNames.length c3) (.slice a4 x.fFlat.fThings.length c4)
theorem ToldD.Reads.below {w w' : World} {v : Value} {x : ToldD} (h : ToldD.Reads w v x) (hb : Below w.heap.size w w') : ToldD.Reads w' v x := by
  obtain ⟨a3, c3, a4, c4, rfl, r3, r4⟩ := h
  exact ⟨a3, c3, a4, c4, rfl, r3.below hb, r4.below hb⟩
theorem ToldD.Own.rd {w : World} {B B1 : Nat} {v : Value} {x : ToldD} (h : ToldD.Own w B B1 v x) : ToldD.Reads w v x := by
  obtain ⟨a3, c3, a4, c4, rfl, r3, r4, p3_4⟩ := h
  obtain ⟨u3, e3, k3, d3⟩ := r3.rd FoundD.cells_len
  simp only [Value.slice.injEq, true_and] at k3
  obtain ⟨rfl, rfl⟩ := k3
  obtain ⟨u4, e4, k4, d4⟩ := r4.rd ThingD.cells_len
  simp only [Value.slice.injEq, true_and] at k4
  obtain ⟨rfl, rfl⟩ := k4
  exact ⟨_, _, _, _, rfl, d3, d4⟩
theorem ToldD.Own.below {w : World} {B B1 : Nat} {v : Value} {x : ToldD} (h : ToldD.Own w B B1 v x) {w' : World} {C : Nat} (hb : Below C w w') (hC : w.heap.size ≤ C) : ToldD.Own w' B B1 v x := by
  obtain ⟨a3, c3, a4, c4, rfl, r3, r4, p3_4⟩ := h
  exact ⟨a3, c3, a4, c4, rfl, r3.below hb hC, r4.below hb hC, p3_4⟩
theorem ToldD.Own.mono {w : World} {B B1 : Nat} {v : Value} {x : ToldD} (h : ToldD.Own w B B1 v x) {B' B1' : Nat} (hB : B' ≤ B) (hB1 : B1 ≤ B1') : ToldD.Own w B' B1' v x := by
  obtain ⟨a3, c3, a4, c4, rfl, r3, r4, p3_4⟩ := h
  exact ⟨a3, c3, a4, c4, rfl, r3.mono hB hB1, r4.mono hB hB1, p3_4⟩
theorem ToldD.Own.outside {w : World} {B B1 : Nat} {v : Value} {x : ToldD} (h : ToldD.Own w B B1 v x) {w' : World} {C C1 : Nat} (ho : Outside C C1 w w') (hap : B1 ≤ C ∨ C1 ≤ B) : ToldD.Own w' B B1 v x := by
  obtain ⟨a3, c3, a4, c4, rfl, r3, r4, p3_4⟩ := h
  exact ⟨a3, c3, a4, c4, rfl, r3.outside ho hap, r4.outside ho hap, p3_4⟩
theorem ToldD.Own.set {w : World} {B B1 : Nat} {v : Value} {x : ToldD} (h : ToldD.Own w B B1 v x) {p : Addr} (hp : p.block < B) (u : Value) : ToldD.Own (w.setCell p u) B B1 v x := by
  obtain ⟨a3, c3, a4, c4, rfl, r3, r4, p3_4⟩ := h
  exact ⟨a3, c3, a4, c4, rfl, r3.set hp u, r4.set hp u, p3_4⟩
def ToldD.bulk (x : ToldD) : Nat := x.fName.size + x.fPrev.size + (x.fFlat.fNames.length + tot FoundD.bulk x.fFlat.fNames) + (x.fFlat.fThings.length + tot ThingD.bulk x.fFlat.fThings)
structure ToldD.Small (x : ToldD) : Prop where
  s0_0 : x.fName.size ≤ 9223372036854775807
  s1_0 : x.fPrev.size ≤ 9223372036854775807
  s3_0 : x.fFlat.fNames.length ≤ 9223372036854775807
  s3_1 : (∀ e ∈ x.fFlat.fNames, e.fPath.size ≤ 9223372036854775807)
  s4_0 : x.fFlat.fThings.length ≤ 9223372036854775807
  s4_1 : (∀ e ∈ x.fFlat.fThings, e.fText.size ≤ 9223372036854775807)
structure ToldD.Fit (x : ToldD) : Prop where
  f3 : x.fFlat.fNames.length ≤ 1048576
  f4 : x.fFlat.fThings.length ≤ 1048576
theorem ToldD.fit {x : ToldD} (h : x.bulk ≤ 1048576) : x.Fit := by
  unfold ToldD.bulk at h
  exact ⟨by omega, by omega⟩

set_option maxHeartbeats 400000 in
set_option maxRecDepth 100000 in
theorem toTold_any (v : Value) (x : ToldD) (w : World) (hf : x.Fit) (hr : ToldD.Reads w v x) :
    Calls Try.prog 100 #[v] w fun e w' => ∃ v', e = .returned v' ∧ ToldD.Own w' w.heap.size w'.heap.size v' x ∧ Below w.heap.size w w' := by
  obtain ⟨a3, c3, a4, c4, rfl, r3, r4⟩ := hr
  go_enter Try.func100, Try.ntmps100
  go_wp2_with fail
  have hb0 : Below w.heap.size w (((w.alloc (.cells #[.string x.fName, .string x.fPrev, .int .i64 x.fQuota, .slice a3 x.fFlat.fNames.length c3, .slice a4 x.fFlat.fThings.length c4] 135)).alloc (.cells #[.string ByteArray.empty, .string ByteArray.empty, .int .i64 0, .slice none 0 0, .slice none 0 0] 99)).alloc (.cells #[.string x.fName, .string x.fPrev, .int .i64 x.fQuota, .slice none 0 0, .slice none 0 0] 99)) := (((Below.refl _ _).alloc (Nat.le_refl _) _).alloc (by simp) _).alloc (by simp; omega) _
  have hA0 : (((w.alloc (.cells #[.string x.fName, .string x.fPrev, .int .i64 x.fQuota, .slice a3 x.fFlat.fNames.length c3, .slice a4 x.fFlat.fThings.length c4] 135)).alloc (.cells #[.string ByteArray.empty, .string ByteArray.empty, .int .i64 0, .slice none 0 0, .slice none 0 0] 99)).alloc (.cells #[.string x.fName, .string x.fPrev, .int .i64 x.fQuota, .slice none 0 0, .slice none 0 0] 99)).heap[w.heap.size]? = some (.cells #[.string x.fName, .string x.fPrev, .int .i64 x.fQuota, .slice a3 x.fFlat.fNames.length c3, .slice a4 x.fFlat.fThings.length c4] 135 (0, 0)) := blk_alloc (blk_alloc (blk_new w _ _ rfl) _) _
  have hR0 : (((w.alloc (.cells #[.string x.fName, .string x.fPrev, .int .i64 x.fQuota, .slice a3 x.fFlat.fNames.length c3, .slice a4 x.fFlat.fThings.length c4] 135)).alloc (.cells #[.string ByteArray.empty, .string ByteArray.empty, .int .i64 0, .slice none 0 0, .slice none 0 0] 99)).alloc (.cells #[.string x.fName, .string x.fPrev, .int .i64 x.fQuota, .slice none 0 0, .slice none 0 0] 99)).heap[w.heap.size + 1]? = some (.cells #[.string ByteArray.empty, .string ByteArray.empty, .int .i64 0, .slice none 0 0, .slice none 0 0] 99 (0, 0)) := blk_alloc (blk_new _ _ (w.heap.size + 1) (by simp)) _
  have hO0 : (((w.alloc (.cells #[.string x.fName, .string x.fPrev, .int .i64 x.fQuota, .slice a3 x.fFlat.fNames.length c3, .slice a4 x.fFlat.fThings.length c4] 135)).alloc (.cells #[.string ByteArray.empty, .string ByteArray.empty, .int .i64 0, .slice none 0 0, .slice none 0 0] 99)).alloc (.cells #[.string x.fName, .string x.fPrev, .int .i64 x.fQuota, .slice none 0 0, .slice none 0 0] 99)).heap[w.heap.size + 1 + 1]? = some (.cells #[.string x.fName, .string x.fPrev, .int .i64 x.fQuota, .slice none 0 0, .slice none 0 0] 99 (0, 0)) := blk_new _ _ (w.heap.size + 1 + 1) (by simp)
  have hz0 : w.heap.size + 1 + 1 < (((w.alloc (.cells #[.string x.fName, .string x.fPrev, .int .i64 x.fQuota, .slice a3 x.fFlat.fNames.length c3, .slice a4 x.fFlat.fThings.length c4] 135)).alloc (.cells #[.string ByteArray.empty, .string ByteArray.empty, .int .i64 0, .slice none 0 0, .slice none 0 0] 99)).alloc (.cells #[.string x.fName, .string x.fPrev, .int .i64 x.fQuota, .slice none 0 0, .slice none 0 0] 99)).heap.size := blk_lt hO0
  refine (toFlat_any _ x.fFlat _ ⟨hf.f3, hf.f4⟩ ⟨_, _, _, _, rfl, r3.below hb0, r4.below hb0⟩).mono ?_
  rintro e w1 ⟨v1, rfl, ow1, b1⟩
  obtain ⟨x3, y3, x4, y4, rfl, ro3, ro4, ap3_4⟩ := ow1
  try simp only [sz_alloc, sz_set] at ro3 ro4
  have hbW := hb0
  have hb1 := hbW.trans (b1.mono hbW.size)
  have hA1 : w1.heap[w.heap.size]? = some (.cells #[.string x.fName, .string x.fPrev, .int .i64 x.fQuota, .slice a3 x.fFlat.fNames.length c3, .slice a4 x.fFlat.fThings.length c4] 135 (0, 0)) := blk_below hA0 b1 (Nat.le_refl _)
  have hR1 : w1.heap[w.heap.size + 1]? = some (.cells #[.string ByteArray.empty, .string ByteArray.empty, .int .i64 0, .slice none 0 0, .slice none 0 0] 99 (0, 0)) := blk_below hR0 b1 (Nat.le_refl _)
  have hO1 : w1.heap[w.heap.size + 1 + 1]? = some (.cells #[.string x.fName, .string x.fPrev, .int .i64 x.fQuota, .slice none 0 0, .slice none 0 0] 99 (0, 0)) := blk_below hO0 b1 (Nat.le_refl _)
  have hz1 : w.heap.size + 1 + 1 < w1.heap.size := blk_lt hO1
  have hs1 := b1.size
  try simp only [sz_alloc, sz_set] at hs1
  clear b1 hbW hA0 hR0 hO0
  have po0 : w1.cell? ⟨w.heap.size + 1 + 1, 0, none⟩ = some (.string x.fName) := blk_cell hO1 0
  have pf0 := blk_frozen hO1 0
  have po1 : w1.cell? ⟨w.heap.size + 1 + 1, 1, none⟩ = some (.string x.fPrev) := blk_cell hO1 1
  have pf1 := blk_frozen hO1 1
  have po2 : w1.cell? ⟨w.heap.size + 1 + 1, 2, none⟩ = some (.int .i64 x.fQuota) := blk_cell hO1 2
  have pf2 := blk_frozen hO1 2
  have po3 : w1.cell? ⟨w.heap.size + 1 + 1, 3, none⟩ = some (.slice none 0 0) := blk_cell hO1 3
  have pf3 := blk_frozen hO1 3
  have po4 : w1.cell? ⟨w.heap.size + 1 + 1, 4, none⟩ = some (.slice none 0 0) := blk_cell hO1 4
  have pf4 := blk_frozen hO1 4
  have pr0 : w1.cell? ⟨w.heap.size + 1, 0, none⟩ = some (.string ByteArray.empty) := blk_cell hR1 0
  have pg0 := blk_frozen hR1 0
  have pr1 : w1.cell? ⟨w.heap.size + 1, 1, none⟩ = some (.string ByteArray.empty) := blk_cell hR1 1
  have pg1 := blk_frozen hR1 1
  have pr2 : w1.cell? ⟨w.heap.size + 1, 2, none⟩ = some (.int .i64 0) := blk_cell hR1 2
  have pg2 := blk_frozen hR1 2
  have pr3 : w1.cell? ⟨w.heap.size + 1, 3, none⟩ = some (.slice none 0 0) := blk_cell hR1 3
  have pg3 := blk_frozen hR1 3
  have pr4 : w1.cell? ⟨w.heap.size + 1, 4, none⟩ = some (.slice none 0 0) := blk_cell hR1 4
  have pg4 := blk_frozen hR1 4
  go_wp2
  refine bodyPost_ret (v := .agg #[.string x.fName, .string x.fPrev, .int .i64 x.fQuota, .slice x3 x.fFlat.fNames.length y3, .slice x4 x.fFlat.fThings.length y4]) (by simp [results, Try.results100, go_sem, pr0, pr1, pr2, pr3, pr4]) rfl ?_
  refine ⟨_, rfl, ⟨_, _, _, _, rfl, ?q3, ?q4, ?q3_4⟩, ?_⟩
  case q3 =>
    refine RowO.mono (((((((ro3.set ?_ _).set ?_ _).set ?_ _).set ?_ _).set ?_ _).set ?_ _).set ?_ _) ?_ ?_
    all_goals (first | omega | (simp; done) | (simp; omega))
  case q4 =>
    refine RowO.mono (((((((ro4.set ?_ _).set ?_ _).set ?_ _).set ?_ _).set ?_ _).set ?_ _).set ?_ _) ?_ ?_
    all_goals (first | omega | (simp; done) | (simp; omega))
  case q3_4 => exact ap3_4
  refine (Below.setCell (Below.setCell (Below.setCell (Below.setCell (Below.setCell (Below.setCell (Below.setCell hb1 ?_ _) ?_ _) ?_ _) ?_ _) ?_ _) ?_ _) ?_ _)
  all_goals (first | omega | (simp; done) | (simp; omega))

set_option maxHeartbeats 400000 in
set_option maxRecDepth 100000 in
theorem eqTold_yes (u v : Value) (x : ToldD) (w : World) (hf : x.Fit) (hr : ToldD.Reads w u x) (hs : ToldD.Reads w v x) :
    Calls Try.prog 102 #[u, v] w fun e w' => e = .returned (.bool true) ∧ Below w.heap.size w w' := by
  obtain ⟨a3, c3, a4, c4, rfl, r3, r4⟩ := hr
  obtain ⟨b3, d3, b4, d4, rfl, s3, s4⟩ := hs
  have hb0 : Below w.heap.size w ((w.alloc (.cells #[.string x.fName, .string x.fPrev, .int .i64 x.fQuota, .slice a3 x.fFlat.fNames.length c3, .slice a4 x.fFlat.fThings.length c4] 99)).alloc (.cells #[.string x.fName, .string x.fPrev, .int .i64 x.fQuota, .slice b3 x.fFlat.fNames.length d3, .slice b4 x.fFlat.fThings.length d4] 99)) := ((Below.refl _ _).alloc (Nat.le_refl _) _).alloc (by simp) _
  have hA0 : ((w.alloc (.cells #[.string x.fName, .string x.fPrev, .int .i64 x.fQuota, .slice a3 x.fFlat.fNames.length c3, .slice a4 x.fFlat.fThings.length c4] 99)).alloc (.cells #[.string x.fName, .string x.fPrev, .int .i64 x.fQuota, .slice b3 x.fFlat.fNames.length d3, .slice b4 x.fFlat.fThings.length d4] 99)).heap[w.heap.size]? = some (.cells #[.string x.fName, .string x.fPrev, .int .i64 x.fQuota, .slice a3 x.fFlat.fNames.length c3, .slice a4 x.fFlat.fThings.length c4] 99 (0, 0)) := blk_alloc (blk_new w _ _ rfl) _
  have hB0 : ((w.alloc (.cells #[.string x.fName, .string x.fPrev, .int .i64 x.fQuota, .slice a3 x.fFlat.fNames.length c3, .slice a4 x.fFlat.fThings.length c4] 99)).alloc (.cells #[.string x.fName, .string x.fPrev, .int .i64 x.fQuota, .slice b3 x.fFlat.fNames.length d3, .slice b4 x.fFlat.fThings.length d4] 99)).heap[w.heap.size + 1]? = some (.cells #[.string x.fName, .string x.fPrev, .int .i64 x.fQuota, .slice b3 x.fFlat.fNames.length d3, .slice b4 x.fFlat.fThings.length d4] 99 (0, 0)) := blk_new _ _ (w.heap.size + 1) (by simp)
  go_enter Try.func102, Try.ntmps102
  go_wp2_with fail
  refine (eqFlat_yes _ _ x.fFlat _ ⟨hf.f3, hf.f4⟩ ⟨_, _, _, _, rfl, r3.below hb0, r4.below hb0⟩ ⟨_, _, _, _, rfl, s3.below hb0, s4.below hb0⟩).mono ?_
  rintro e w1 ⟨rfl, b1⟩
  have hb1 := hb0.trans (b1.mono hb0.size)
  have hA1 := blk_below hA0 b1 (Nat.le_refl _)
  have hB1 := blk_below hB0 b1 (Nat.le_refl _)
  clear b1 hA0 hB0
  go_wp2
  go_ret
  exact ⟨rfl, hb1⟩

end Go.Proofs.Ytkgmilobmbeplaa
