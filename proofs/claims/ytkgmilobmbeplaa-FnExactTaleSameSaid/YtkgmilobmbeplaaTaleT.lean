/- The laws' helpers over tales. -/
import Derived.Test.YtkgmilobmbeplaaToldS
namespace Go.Proofs.Ytkgmilobmbeplaa
open Go.RowKit

structure TaleD where
  fHeads : List ToldD
  fSnaps : List ToldD
def TaleD.Reads (w : World) (v : Value) (x : TaleD) : Prop := ∃ (a0 : Option Addr) (c0 : Nat) (a1 : Option Addr) (c1 : Nat), v = .agg #[.slice a0 x.fHeads.length c0, .slice a1 x.fSnaps.length c1] ∧ ToldRd w a0 x.fHeads.length x.fHeads ∧ ToldRd w a1 x.fSnaps.length x.fSnaps
theorem TaleD.Reads.below {w w' : World} {v : Value} {x : TaleD} (h : TaleD.Reads w v x) (hb : Below w.heap.size w w') : TaleD.Reads w' v x := by
  obtain ⟨a0, c0, a1, c1, rfl, r0, r1⟩ := h
  exact ⟨a0, c0, a1, c1, rfl, r0.below hb, r1.below hb⟩
def TaleD.bulk (x : TaleD) : Nat := x.fHeads.length + tot ToldD.bulk x.fHeads + (x.fSnaps.length + tot ToldD.bulk x.fSnaps)
structure TaleD.Small (x : TaleD) : Prop where
  s0 : x.fHeads.length ≤ 9223372036854775807
  s1 : x.fSnaps.length ≤ 9223372036854775807
  t0 : ∀ e ∈ x.fHeads, e.Small
  t1 : ∀ e ∈ x.fSnaps, e.Small
structure TaleD.Fit (x : TaleD) : Prop where
  f0 : x.fHeads.length ≤ 1048576
  f1 : x.fSnaps.length ≤ 1048576
  g0 : ∀ e ∈ x.fHeads, e.Fit
  g1 : ∀ e ∈ x.fSnaps, e.Fit
theorem tot_mem_le {α : Type} (f : α → Nat) : ∀ (xs : List α) (x : α), x ∈ xs → f x ≤ tot f xs
  | y :: ys, x, h => by
    rcases List.mem_cons.1 h with rfl | h
    · simp [tot]
    · have := tot_mem_le f ys x h
      simp only [tot, List.map_cons, List.sum_cons] at this ⊢
      omega
theorem TaleD.fit {x : TaleD} (h : x.bulk ≤ 1048576) : x.Fit := by
  unfold TaleD.bulk at h
  exact ⟨by omega, by omega, fun e he => ToldD.fit (Nat.le_trans (tot_mem_le ToldD.bulk _ _ he) (by omega)), fun e he => ToldD.fit (Nat.le_trans (tot_mem_le ToldD.bulk _ _ he) (by omega))⟩

set_option maxHeartbeats 400000 in
set_option maxRecDepth 100000 in
theorem szTale_any (v : Value) (x : TaleD) (l : Int) (w : World) (hl0 : 0 ≤ l) (hl1 : l ≤ 1048576) (hr : TaleD.Reads w v x) (hs : x.Small) :
    Calls Try.prog 16 #[v, .int .i64 l] w fun e w' => e = .returned (.int .i64 (leftOf l x.bulk)) ∧ Below w.heap.size w w' := by
  obtain ⟨a0, c0, a1, c1, rfl, r0, r1⟩ := hr
  have hbA : Below w.heap.size w (w.alloc (.cells #[.slice a0 x.fHeads.length c0, .slice a1 x.fSnaps.length c1] 36)) := (Below.refl _ _).alloc (Nat.le_refl _) _
  have hA : (w.alloc (.cells #[.slice a0 x.fHeads.length c0, .slice a1 x.fSnaps.length c1] 36)).heap[w.heap.size]? = some (.cells #[.slice a0 x.fHeads.length c0, .slice a1 x.fSnaps.length c1] 36 (0, 0)) := blk_new w _ _ rfl
  have HB : Hid (x.bulk = x.fHeads.length + tot ToldD.bulk x.fHeads + (x.fSnaps.length + tot ToldD.bulk x.fSnaps)) := by show x.bulk = _; rfl
  have HC := szToldS_any a0 x.fHeads.length c0 x.fHeads l (w.alloc (.cells #[.slice a0 x.fHeads.length c0, .slice a1 x.fSnaps.length c1] 36)) hl0 hl1 hs.s0 (r0.below hbA) hs.t0
  have R1 := Bx.mk r1
  clear r0 r1
  by_cases g0 : l < ((x.fHeads.length + tot ToldD.bulk x.fHeads : Nat) : Int)
  · rw [leftOf_no g0] at HC
    have HC := Lib.hid HC
    have HL : Hid (leftOf l x.bulk = -1) := by show _ = _; rw [leftOf_no (by rw [HB.out]; omega)]
    clear g0
    go_enter Try.func16, Try.ntmps16
    go_wp2_with fail
    refine HC.out.mono ?_
    rintro e w1 ⟨rfl, b⟩
    go_wp2
    go_ret
    exact ⟨ret_int HL.out.symm, hbA.trans (b.mono hbA.size)⟩
  · rw [leftOf_yes (by omega)] at HC
    have HC := Lib.hid HC
    generalize hm : l - ((x.fHeads.length + tot ToldD.bulk x.fHeads : Nat) : Int) = m at HC
    have hm0 : 0 ≤ m := by omega
    have hm1 : m ≤ 1048576 := by omega
    have HM := Bx.mk hm
    clear hm g0
    go_enter Try.func16, Try.ntmps16
    go_wp2_with fail
    refine HC.out.mono ?_
    rintro e w1 ⟨rfl, b⟩
    have hA1 := blk_below hA b (Nat.le_refl _)
    have hb1 := hbA.trans (b.mono hbA.size)
    have k0 := blk_cell hA1 0
    have k1 := blk_cell hA1 1
    have HD := szToldS_any a1 x.fSnaps.length c1 x.fSnaps m w1 hm0 hm1 hs.s1 (R1.out.below hb1) hs.t1
    clear b hA1 hA HC
    by_cases g1 : m < ((x.fSnaps.length + tot ToldD.bulk x.fSnaps : Nat) : Int)
    · rw [leftOf_no g1] at HD
      have HD := Lib.hid HD
      have HL : Hid (leftOf l x.bulk = -1) := by show _ = _; rw [leftOf_no (by rw [HB.out]; have := HM.out; omega)]
      clear g1
      go_wp2_with fail
      refine HD.out.mono ?_
      rintro e w2 ⟨rfl, b⟩
      go_wp2
      go_ret
      exact ⟨ret_int HL.out.symm, hb1.trans (b.mono hb1.size)⟩
    · rw [leftOf_yes (by omega)] at HD
      have HD := Lib.hid HD
      have HL : Hid (leftOf l x.bulk = m - ((x.fSnaps.length + tot ToldD.bulk x.fSnaps : Nat) : Int)) := by show _ = _; rw [leftOf_yes (by rw [HB.out]; have := HM.out; omega), HB.out]; have := HM.out; omega
      generalize hn : m - ((x.fSnaps.length + tot ToldD.bulk x.fSnaps : Nat) : Int) = n at HD HL
      have hn0 : 0 ≤ n := by omega
      clear hn g1
      go_wp2_with fail
      refine HD.out.mono ?_
      rintro e w2 ⟨rfl, b⟩
      go_wp2
      go_ret
      exact ⟨ret_int HL.out.symm, hb1.trans (b.mono hb1.size)⟩

set_option maxHeartbeats 400000 in
set_option maxRecDepth 100000 in
theorem toTale_any (v : Value) (x : TaleD) (w : World) (hf : x.Fit) (hr : TaleD.Reads w v x) :
    Calls Try.prog 18 #[v] w fun e w' => ∃ v', e = .returned v' ∧ TaleD.Reads w' v' x ∧ Below w.heap.size w w' := by
  obtain ⟨a0, c0, a1, c1, rfl, r0, r1⟩ := hr
  have hb0 : Below w.heap.size w (((w.alloc (.cells #[.slice a0 x.fHeads.length c0, .slice a1 x.fSnaps.length c1] 36)).alloc (.cells #[.slice none 0 0, .slice none 0 0] 41)).alloc (.cells #[.slice none 0 0, .slice none 0 0] 41)) := (((Below.refl _ _).alloc (Nat.le_refl _) _).alloc (by simp) _).alloc (by simp; omega) _
  have hA0 : (((w.alloc (.cells #[.slice a0 x.fHeads.length c0, .slice a1 x.fSnaps.length c1] 36)).alloc (.cells #[.slice none 0 0, .slice none 0 0] 41)).alloc (.cells #[.slice none 0 0, .slice none 0 0] 41)).heap[w.heap.size]? = some (.cells #[.slice a0 x.fHeads.length c0, .slice a1 x.fSnaps.length c1] 36 (0, 0)) := blk_alloc (blk_alloc (blk_new w _ _ rfl) _) _
  have hR0 : (((w.alloc (.cells #[.slice a0 x.fHeads.length c0, .slice a1 x.fSnaps.length c1] 36)).alloc (.cells #[.slice none 0 0, .slice none 0 0] 41)).alloc (.cells #[.slice none 0 0, .slice none 0 0] 41)).heap[w.heap.size + 1]? = some (.cells #[.slice none 0 0, .slice none 0 0] 41 (0, 0)) := blk_alloc (blk_new _ _ (w.heap.size + 1) (by simp)) _
  have hO0 : (((w.alloc (.cells #[.slice a0 x.fHeads.length c0, .slice a1 x.fSnaps.length c1] 36)).alloc (.cells #[.slice none 0 0, .slice none 0 0] 41)).alloc (.cells #[.slice none 0 0, .slice none 0 0] 41)).heap[w.heap.size + 1 + 1]? = some (.cells #[.slice none 0 0, .slice none 0 0] 41 (0, 0)) := blk_new _ _ (w.heap.size + 1 + 1) (by simp)
  have hz0 := blk_lt hO0
  generalize hw0 : (((w.alloc (.cells #[.slice a0 x.fHeads.length c0, .slice a1 x.fSnaps.length c1] 36)).alloc (.cells #[.slice none 0 0, .slice none 0 0] 41)).alloc (.cells #[.slice none 0 0, .slice none 0 0] 41)) = w0 at hb0 hA0 hR0 hO0 hz0
  have HW0 := Bx.mk hw0
  clear hw0
  have HC0 := Bx.mk (toToldS_any a0 x.fHeads.length c0 x.fHeads w0 hf.f0 (r0.below hb0) hf.g0)
  have R1 := Bx.mk r1
  clear r0 r1
  go_enter Try.func18, Try.ntmps18
  go_wp2_with fail
  rw [HW0.out]
  refine HC0.out.mono ?_
  rintro e w1 ⟨rfl, rd0, b1⟩
  have RD0 := Bx.mk rd0
  have hb1 := hb0.trans (b1.mono hb0.size)
  have hA1 := blk_below hA0 b1 (Nat.le_refl _)
  have hR1 := blk_below hR0 b1 (Nat.le_refl _)
  have hO1 := blk_below hO0 b1 (Nat.le_refl _)
  have hs1 := b1.size
  have po0 := blk_cell hO1 0
  have pf0 := blk_frozen hO1 0
  have hA1' := blk_set_other hA1 (p := ⟨w.heap.size + 1 + 1, 0, none⟩) (by simp; try omega) (.slice (some ⟨w0.heap.size, 0, none⟩) x.fHeads.length x.fHeads.length)
  have hR1' := blk_set_other hR1 (p := ⟨w.heap.size + 1 + 1, 0, none⟩) (by simp; try omega) (.slice (some ⟨w0.heap.size, 0, none⟩) x.fHeads.length x.fHeads.length)
  have hO1' : (w1.setCell ⟨w.heap.size + 1 + 1, 0, none⟩ (.slice (some ⟨w0.heap.size, 0, none⟩) x.fHeads.length x.fHeads.length)).heap[w.heap.size + 1 + 1]? = some (.cells #[.slice (some ⟨w0.heap.size, 0, none⟩) x.fHeads.length x.fHeads.length, .slice none 0 0] 41 (0, 0)) := blk_set hO1 _
  have hb2 : Below w.heap.size w (w1.setCell ⟨w.heap.size + 1 + 1, 0, none⟩ (.slice (some ⟨w0.heap.size, 0, none⟩) x.fHeads.length x.fHeads.length)) := Below.setCell hb1 (by simp; try omega) _
  have HC1 := Bx.mk (toToldS_any a1 x.fSnaps.length c1 x.fSnaps (w1.setCell ⟨w.heap.size + 1 + 1, 0, none⟩ (.slice (some ⟨w0.heap.size, 0, none⟩) x.fHeads.length x.fHeads.length)) hf.f1 (R1.out.below hb2) hf.g1)
  have k1 : (w1.setCell ⟨w.heap.size + 1 + 1, 0, none⟩ (.slice (some ⟨w0.heap.size, 0, none⟩) x.fHeads.length x.fHeads.length)).cell? ⟨w.heap.size, 1, none⟩ = some (.slice a1 x.fSnaps.length c1) := blk_cell hA1' 1
  have ro0 := rd0.set (p := ⟨w.heap.size + 1 + 1, 0, none⟩) hz0 (.slice (some ⟨w0.heap.size, 0, none⟩) x.fHeads.length x.fHeads.length)
  have RO0 := Bx.mk ro0
  clear b1 hA0 hR0 hO0 rd0 hA1 hR1 hO1 ro0
  go_wp2_with fail
  refine HC1.out.mono ?_
  rintro e w2 ⟨rfl, rd1, b2⟩
  have hb3 := hb2.trans (b2.mono hb2.size)
  have hs2 : w1.heap.size ≤ w2.heap.size := by have := b2.size; simpa using this
  have hR2 := blk_below hR1' b2 (Nat.le_refl _)
  have hO2 := blk_below hO1' b2 (Nat.le_refl _)
  have RO02 := Bx.mk (RO0.out.below b2 (Nat.le_refl _))
  have RO1 := Bx.mk rd1
  have po0 : w2.cell? ⟨w.heap.size + 1 + 1, 0, none⟩ = some (.slice (some ⟨w0.heap.size, 0, none⟩) x.fHeads.length x.fHeads.length) := blk_cell hO2 0
  have pf0 := blk_frozen hO2 0
  have po1 : w2.cell? ⟨w.heap.size + 1 + 1, 1, none⟩ = some (.slice none 0 0) := blk_cell hO2 1
  have pf1 := blk_frozen hO2 1
  have pr0 : w2.cell? ⟨w.heap.size + 1, 0, none⟩ = some (.slice none 0 0) := blk_cell hR2 0
  have pg0 := blk_frozen hR2 0
  have pr1 : w2.cell? ⟨w.heap.size + 1, 1, none⟩ = some (.slice none 0 0) := blk_cell hR2 1
  have pg1 := blk_frozen hR2 1
  clear b2 hA1' hR1' hO1' rd1 k1 hR2 hO2
  simp only [sz_set] at RO1
  go_wp2
  refine bodyPost_ret (v := .agg #[.slice (some ⟨w0.heap.size, 0, none⟩) x.fHeads.length x.fHeads.length, .slice (some ⟨w1.heap.size, 0, none⟩) x.fSnaps.length x.fSnaps.length]) (by simp [results, Try.results18, go_sem, pr0, pr1]) rfl ?_
  refine ⟨_, rfl, ⟨_, _, _, _, rfl, ?q0, ?q1⟩, ?_⟩
  case q0 =>
    refine (((RO02.out.set ?_ _).set ?_ _).set ?_ _).rd
    all_goals (first | omega | (simp; done) | (simp; omega))
  case q1 =>
    refine (((RO1.out.set ?_ _).set ?_ _).set ?_ _).rd
    all_goals (first | omega | (simp; done) | (simp; omega))
  refine (Below.setCell (Below.setCell (Below.setCell hb3 ?_ _) ?_ _) ?_ _)
  all_goals (first | omega | (simp; done) | (simp; omega))

set_option maxHeartbeats 400000 in
set_option maxRecDepth 100000 in
theorem eqTale_yes (u v : Value) (x : TaleD) (w : World) (hf : x.Fit) (hr : TaleD.Reads w u x) (hs : TaleD.Reads w v x) :
    Calls Try.prog 20 #[u, v] w fun e w' => e = .returned (.bool true) ∧ Below w.heap.size w w' := by
  obtain ⟨a0, c0, a1, c1, rfl, r0, r1⟩ := hr
  obtain ⟨b0, d0, b1, d1, rfl, s0, s1⟩ := hs
  have hb0 : Below w.heap.size w ((w.alloc (.cells #[.slice a0 x.fHeads.length c0, .slice a1 x.fSnaps.length c1] 41)).alloc (.cells #[.slice b0 x.fHeads.length d0, .slice b1 x.fSnaps.length d1] 41)) := ((Below.refl _ _).alloc (Nat.le_refl _) _).alloc (by simp) _
  have hA0 : ((w.alloc (.cells #[.slice a0 x.fHeads.length c0, .slice a1 x.fSnaps.length c1] 41)).alloc (.cells #[.slice b0 x.fHeads.length d0, .slice b1 x.fSnaps.length d1] 41)).heap[w.heap.size]? = some (.cells #[.slice a0 x.fHeads.length c0, .slice a1 x.fSnaps.length c1] 41 (0, 0)) := blk_alloc (blk_new w _ _ rfl) _
  have hB0 : ((w.alloc (.cells #[.slice a0 x.fHeads.length c0, .slice a1 x.fSnaps.length c1] 41)).alloc (.cells #[.slice b0 x.fHeads.length d0, .slice b1 x.fSnaps.length d1] 41)).heap[w.heap.size + 1]? = some (.cells #[.slice b0 x.fHeads.length d0, .slice b1 x.fSnaps.length d1] 41 (0, 0)) := blk_new _ _ (w.heap.size + 1) (by simp)
  have HC := Bx.mk (eqToldS_yes _ _ _ c0 d0 x.fHeads _ hf.f0 (r0.below hb0) (s0.below hb0) hf.g0)
  have R1 := Bx.mk r1
  have S1 := Bx.mk s1
  clear r0 r1 s0 s1
  go_enter Try.func20, Try.ntmps20
  go_wp2_with fail
  refine HC.out.mono ?_
  rintro e w1 ⟨rfl, b1⟩
  have hb1 := hb0.trans (b1.mono hb0.size)
  have hA1 := blk_below hA0 b1 (Nat.le_refl _)
  have hB1 := blk_below hB0 b1 (Nat.le_refl _)
  have k1 : w1.cell? ⟨w.heap.size, 1, none⟩ = some (.slice a1 x.fSnaps.length c1) := blk_cell hA1 1
  have j1 : w1.cell? ⟨w.heap.size + 1, 1, none⟩ = some (.slice _ x.fSnaps.length d1) := blk_cell hB1 1
  have HD := Bx.mk (eqToldS_yes _ _ _ c1 d1 x.fSnaps w1 hf.f1 (R1.out.below hb1) (S1.out.below hb1) hf.g1)
  clear b1 hA0 hB0 hA1 hB1
  go_wp2_with fail
  refine HD.out.mono ?_
  rintro e w2 ⟨rfl, b2⟩
  go_wp2
  go_ret
  exact ⟨rfl, hb1.trans (b2.mono hb1.size)⟩

end Go.Proofs.Ytkgmilobmbeplaa
