/- What StoreFree gives: plain. -/
import Derived.Test.YtkgmilobmbeplaaFreeS
namespace Go.Proofs.Ytkgmilobmbeplaa
open Go.RowKit

def StoreD.mayFree (st : StoreD) (p : PtrD) : Bool := st.ok && (p.ok && (p.hole || (decide (p.fBirth ≤ st.fTxg) && !(st.fSpace.fRefs.getD p.fAt.toNat 0 == 0))))
def StoreD.freed (st : StoreD) (p : PtrD) : StoreD := if st.mayFree p then st.free p else StoreD.zero
theorem freed_no {st : StoreD} {p : PtrD} (h : st.mayFree p = false) : st.freed p = StoreD.zero := by unfold StoreD.freed; rw [h]; rfl
theorem freed_yes {st : StoreD} {p : PtrD} (h : st.mayFree p = true) : st.freed p = st.free p := by unfold StoreD.freed; rw [if_pos h]
theorem ok_at {p : PtrD} (h : p.ok = true) (hh : p.hole = false) : 8 ≤ p.fAt ∧ p.fAt ≤ 63 := by
  unfold PtrD.ok at h
  rw [hh] at h
  simp only [Bool.false_or, Bool.and_eq_true] at h
  exact inB_true h.1.1.1.1
theorem hole_birth {p : PtrD} (h : p.hole = true) : p.fBirth = 0 := by
  unfold PtrD.hole at h
  simp only [Bool.and_eq_true, beq_iff_eq] at h
  exact h.1.1.1.2
theorem freed_fit {st : StoreD} {p : PtrD} (hb : st.bulk ≤ 1048576) : (st.freed p).Fit := by
  unfold StoreD.freed
  split
  · rename_i hm
    have hf := StoreD.fit hb
    have hok : st.ok = true := by
      unfold StoreD.mayFree at hm
      simp only [Bool.and_eq_true] at hm
      exact hm.1
    have hr := (StoreD.ok_spec hok).rows
    unfold StoreD.bulk at hb
    unfold StoreD.free
    split
    · exact hf
    · split
      · exact ⟨hf.f0, hf.f1, hf.f2, hf.f4, by show (st.fDead ++ [p]).length ≤ _; rw [List.length_append]; simp; omega⟩
      · split
        · exact ⟨hf.f0, hf.f1, hf.f2, by show (st.fGone ++ [p]).length ≤ _; rw [List.length_append]; simp; omega, hf.f6⟩
        · exact ⟨by show (dropRows _ _ _).length ≤ _; rw [dropRows_len]; exact hf.f0, by show (SpaceD.give _ _).fRefs.length ≤ _; rw [SpaceD.give_refs]; exact hf.f1, by show (SpaceD.give _ _).fLast.length ≤ _; rw [SpaceD.give_last]; exact hf.f2, hf.f4, hf.f6⟩
  · exact ⟨Nat.zero_le _, Nat.zero_le _, Nat.zero_le _, Nat.zero_le _, Nat.zero_le _⟩
end Go.Proofs.Ytkgmilobmbeplaa
