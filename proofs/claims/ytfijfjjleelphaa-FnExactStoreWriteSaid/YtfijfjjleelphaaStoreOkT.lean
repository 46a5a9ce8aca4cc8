/- The reference's StoreOk; stores as boxes. -/
import Derived.Test.YtfijfjjleelphaaStoreOkS
import Derived.Test.YtfijfjjleelphaaStoreM
import Derived.Test.YtfijfjjleelphaaBox
namespace Go.Proofs.Ytfijfjjleelphaa
open Go.RowKit

theorem specStoreOk_any (v : Value) (st : StoreD) (w : World) (hr : StoreD.Reads w v st) (hf : st.Fit) (hi : -9223372036854775808 ≤ st.fTxg) :
    Calls Try.prog 81 #[v] w fun e w' => e = .returned (.bool st.ok) ∧ Below w.heap.size w w' := by
  cases h : (st.fRows.length == 64 && (st.fSpace.ok && (inB st.fTxg 1 900 && inB st.fKeep 0 (st.fTxg - 1))))
  · have : st.ok = false := by
      unfold StoreD.ok
      simp only [Bool.and_eq_false_iff] at h ⊢
      rcases h with h | h | h | h <;> simp [h]
    rw [this]
    exact specStoreOk_no v st w hr hf hi h
  · simp only [Bool.and_eq_true, beq_iff_eq] at h
    exact specStoreOk_yes v st w hr hf h.1 h.2.1 h.2.2.1 h.2.2.2

theorem cells_zero : Cells 8 (.agg #[.slice none 0 0, .slice none 0 0, .slice none 0 0, .int .i64 0, .slice none 0 0, .int .i64 0, .slice none 0 0, .bool false]) :=
  ⟨[.slice none 0 0, .slice none 0 0, .slice none 0 0, .int .i64 0, .slice none 0 0, .int .i64 0, .slice none 0 0, .bool false], rfl, rfl, fun u hu => List.all_eq_true.1 (show List.all _ (fun u => u.oneCell') = true from rfl) u hu⟩
theorem cells_store (a0 : Option Addr) (n0 c0 : Nat) (a1 : Option Addr) (n1 c1 : Nat) (a2 : Option Addr) (n2 c2 : Nat) (t : Int) (a4 : Option Addr) (n4 c4 : Nat) (k : Int) (a6 : Option Addr) (n6 c6 : Nat) (s : Bool) : Cells 8 (.agg #[.slice a0 n0 c0, .slice a1 n1 c1, .slice a2 n2 c2, .int .i64 t, .slice a4 n4 c4, .int .i64 k, .slice a6 n6 c6, .bool s]) :=
  ⟨[.slice a0 n0 c0, .slice a1 n1 c1, .slice a2 n2 c2, .int .i64 t, .slice a4 n4 c4, .int .i64 k, .slice a6 n6 c6, .bool s], rfl, rfl, fun u hu => List.all_eq_true.1 (show List.all _ (fun u => u.oneCell') = true from rfl) u hu⟩

theorem StoreD.Own.cells {w : World} {B B1 : Nat} {v : Value} {x : StoreD} (h : StoreD.Own w B B1 v x) : Cells 8 v := by
  obtain ⟨a0, c0, a1, c1, a2, c2, a4, c4, a6, c6, rfl, _⟩ := h
  exact cells_store _ _ _ _ _ _ _ _ _ _ _ _ _ _ _ _ _ _
theorem past_pos (x : StoreD) : 0 < x.past 1 := by unfold StoreD.past; omega

end Go.Proofs.Ytfijfjjleelphaa
