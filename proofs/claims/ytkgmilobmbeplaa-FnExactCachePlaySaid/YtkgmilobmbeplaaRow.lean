/- Rows: opened, cut, appended to, made new. No program in sight. -/
import Derived.Test.YtkgmilobmbeplaaStepQ
import Derived.Test.YtkgmilobmbeplaaApp
namespace Go.Proofs.Ytkgmilobmbeplaa
open Go.RowKit

section
variable {W w w' : World} {s : List Asr} {α : Type} {enc : α → List Value} {size : Nat} {e : TypeId}
/-- A row with room, down to its block. -/
theorem St.rowBlk (hS : St W s w) (i : Nat) {ao : Option Addr} {n cap : Nat} {xs : List α} (hi : s[i]? = some (rowA enc size e (.slice ao n cap) xs)) :
    n = xs.length ∧ ((cap = 0 ∧ xs = []) ∨ (cap ≠ 0 ∧ ∃ g cur, ao = some ⟨g, 0, none⟩ ∧ w.heap[g]? = some (.cells cur e (0, 0)) ∧ n ≤ cap ∧ cap ≤ maxLen ∧ cur.size = cap * size ∧ cur.toList.take (n * size) = xs.flatMap enc ∧ W.heap.size ≤ g)) := by
  obtain ⟨ao', cap', hv, hc, _⟩ := hS.row i hi
  simp only [Value.slice.injEq] at hv
  obtain ⟨rfl, rfl, rfl⟩ := hv
  refine ⟨rfl, ?_⟩
  by_cases h0 : cap = 0
  · rcases hc with h | ho
    · exact .inl h
    · obtain ⟨_, _, hv, hle, _⟩ := owns_slice ho
      simp only [Value.slice.injEq, true_and] at hv
      obtain ⟨rfl, rfl⟩ := hv
      exact .inl ⟨h0, List.length_eq_zero_iff.1 (by omega)⟩
  · refine .inr ⟨h0, ?_⟩
    rcases hc with h | ho
    · exact absurd h.1 h0
    · rcases ho.2 with ⟨hv, _⟩ | ⟨g, cap', cur, hv, hB, hg, h1, h2, h3, h4⟩
      · simp only [Value.slice.injEq] at hv
        exact absurd hv.2.2 h0
      · simp only [Value.slice.injEq, true_and] at hv
        obtain ⟨rfl, rfl⟩ := hv
        exact ⟨g, cur, rfl, hg, h1, h2, h3, h4, hB⟩
/-- A row's block turns; its list with it. -/
theorem St.rowTo (hS : St W s w) (i : Nat) {g n cap : Nat} {xs : List α} (hi : s[i]? = some (rowA enc size e (.slice (some ⟨g, 0, none⟩) n cap) xs)) (h0 : cap ≠ 0) {cur : Array Value} {ys : List α}
    (hg : w'.heap[g]? = some (.cells cur e (0, 0))) (hz : cur.size = cap * size) (hl : ys.length ≤ cap) (ht : cur.toList.take (ys.length * size) = ys.flatMap enc) (hO : Outside g (g + 1) w w') : St W (s.set i (rowA enc size e (.slice (some ⟨g, 0, none⟩) ys.length cap) ys)) w' := by
  obtain ⟨_, hc | ⟨_, g', cur', e1, hg', h1, h2, h3, h4, hB⟩⟩ := hS.rowBlk i hi
  · exact absurd hc.1 h0
  · simp only [Option.some.injEq, Addr.mk.injEq, and_true] at e1
    subst e1
    have hb : ∀ m, Value.rowBlock (.slice (some ⟨g, 0, none⟩) m cap) = some g := fun m => by simp [Value.rowBlock, h0]
    refine hS.mutRow i hi (B := 0) ⟨_, cap, rfl, .inr ⟨by rw [← ht, List.length_take]; have : ys.length * size ≤ cap * size := Nat.mul_le_mul_right size hl; simp; omega, .inr ⟨g, cap, cur, rfl, Nat.zero_le _, hg, hl, h2, hz, ht⟩⟩, fun g' h => ?_⟩ (by rw [hb]; exact hO.row) fun g' h => .inl (by rw [hb] at h ⊢; exact h)
    rw [hb] at h
    obtain rfl := Option.some.inj h
    exact blk_lt hg
/-- A row made new. -/
theorem St.rowNew (hS : St W s w) {g cap : Nat} {cur : Array Value} {ys : List α} (hb : Below w.heap.size w w') (hg : w'.heap[g]? = some (.cells cur e (0, 0))) (hw : w.heap.size ≤ g) (hz : cur.size = cap * size) (hl : ys.length ≤ cap) (hm : cap ≤ maxLen)
    (ht : cur.toList.take (ys.length * size) = ys.flatMap enc) : St W (rowA enc size e (.slice (some ⟨g, 0, none⟩) ys.length cap) ys :: s) w' := by
  refine hS.add (ns := [_]) (St.ofRow (B1 := w'.heap.size) ⟨_, cap, rfl, .inr ⟨?_, .inr ⟨g, cap, cur, rfl, hw, hg, hl, hm, hz, ht⟩⟩, fun g' h => ?_⟩ hb)
  · rw [← ht, List.length_take]; have : ys.length * size ≤ cap * size := Nat.mul_le_mul_right size hl; simp; omega
  · simp only [Value.rowBlock] at h
    split at h
    · cases h
    · obtain rfl := Option.some.inj h; exact blk_lt hg
/-- A row cut. -/
theorem St.rowCut (he : ∀ x, (enc x).length = size) (hS : St W s w) (i : Nat) {ao : Option Addr} {n cap : Nat} {xs : List α} (hi : s[i]? = some (rowA enc size e (.slice ao n cap) xs)) {k : Nat} (hk : k ≤ n) : St W (s.set i (rowA enc size e (.slice ao k cap) (xs.take k))) w := by
  obtain ⟨rfl, hc | ⟨h0, g, cur, rfl, hg, h1, h2, h3, h4, hB⟩⟩ := hS.rowBlk i hi
  · obtain ⟨rfl, rfl⟩ := hc
    obtain rfl : k = 0 := by simpa using hk
    have e1 : s.set i (rowA enc size e (.slice ao 0 0) (([] : List α).take 0)) = s := by
      refine List.ext_getElem? fun j => ?_
      rw [List.getElem?_set]
      split
      · rename_i hj; subst hj; split
        · exact hi.symm
        · rename_i h; exact (List.getElem?_eq_none (by omega)).symm
      · rfl
    rw [e1]; exact hS
  · have hkl : (xs.take k).length = k := by rw [List.length_take]; omega
    have := hS.rowTo (ys := xs.take k) i hi h0 hg h3 (by rw [hkl]; omega) (by
      rw [hkl]
      have h5 : k * size ≤ xs.length * size := Nat.mul_le_mul_right size hk
      rw [show cur.toList.take (k * size) = (cur.toList.take (xs.length * size)).take (k * size) by rw [List.take_take, Nat.min_eq_left h5], h4]
      exact flat_take enc size he xs k) (Outside.refl _ _ _)
    rw [hkl] at this
    exact this
end
end Go.Proofs.Ytkgmilobmbeplaa
