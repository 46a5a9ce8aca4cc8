/- What StoreNext gives: plain. -/
import Derived.Test.YtkgmilobmbeplaaNext
import Derived.Test.YtkgmilobmbeplaaBox
namespace Go.Proofs.Ytkgmilobmbeplaa
open Go.RowKit

def StoreD.zero : StoreD := { fRows := [], fSpace := { fRefs := [], fLast := [] }, fTxg := 0, fGone := [], fKeep := 0, fDead := [], fSame := false }
def StoreD.nextOf (st : StoreD) : StoreD := { fRows := (dropsRS (st.fRows, st.fSpace) st.fGone).1, fSpace := (dropsRS (st.fRows, st.fSpace) st.fGone).2, fTxg := st.fTxg + 1, fGone := [], fKeep := st.fKeep, fDead := st.fDead, fSame := st.fSame }
def StoreD.mayNext (st : StoreD) : Bool := st.ok && !(st.fTxg == 900)
def StoreD.stepped (st : StoreD) : StoreD := if st.mayNext then st.nextOf else StoreD.zero

theorem own_zero (w : World) (B B1 : Nat) : StoreD.Own w B B1 (.agg #[.slice none 0 0, .slice none 0 0, .slice none 0 0, .int .i64 0, .slice none 0 0, .int .i64 0, .slice none 0 0, .bool false]) StoreD.zero :=
  ⟨none, 0, none, 0, none, 0, none, 0, none, 0, rfl, RowO.empty _ _ _ _ _ _ _, RowO.empty _ _ _ _ _ _ _, RowO.empty _ _ _ _ _ _ _, RowO.empty _ _ _ _ _ _ _, RowO.empty _ _ _ _ _ _ _, .inl rfl, .inl rfl, .inl rfl, .inl rfl, .inl rfl, .inl rfl, .inl rfl, .inl rfl, .inl rfl, .inl rfl⟩
theorem apart_nil (a : Value) (ao : Option Addr) : Apart a (.slice ao 0 0) := by
  unfold Apart
  rw [rowBlock_zero]
  cases Value.rowBlock a with
  | none => exact .inl rfl
  | some g => exact .inr (by simp)
/-- The rows of a store that has stepped, behind some stores into a call's own box. -/
theorem own_next_of {st : StoreD} {d0 : Option Addr} {f0 : Nat} {d1 : Option Addr} {f1 : Nat} {d2 : Option Addr} {f2 : Nat} {d4 : Option Addr} {d6 : Option Addr} {f6 : Nat} {w3 w' : World} {C C1 B B1 D D1 : Nat} (hO : Outside C C1 w3 w') (hC : C1 ≤ B) (hD : D ≤ B) (hD1 : B1 ≤ D1)
    (n0 : RowO encS 1 9 w3 B B1 (.slice d0 st.fRows.length f0) (dropsRS (st.fRows, st.fSpace) st.fGone).1) (n1 : RowO encI 1 3 w3 B B1 (.slice d1 st.fSpace.fRefs.length f1) (dropsRS (st.fRows, st.fSpace) st.fGone).2.fRefs)
    (n2 : RowO encI 1 3 w3 B B1 (.slice d2 st.fSpace.fLast.length f2) (dropsRS (st.fRows, st.fSpace) st.fGone).2.fLast) (n6 : RowO PtrD.cells 5 78 w3 B B1 (.slice d6 st.fDead.length f6) st.fDead)
    (p01 : Apart (.slice d0 st.fRows.length f0) (.slice d1 st.fSpace.fRefs.length f1)) (p02 : Apart (.slice d0 st.fRows.length f0) (.slice d2 st.fSpace.fLast.length f2)) (p06 : Apart (.slice d0 st.fRows.length f0) (.slice d6 st.fDead.length f6))
    (p12 : Apart (.slice d1 st.fSpace.fRefs.length f1) (.slice d2 st.fSpace.fLast.length f2)) (p16 : Apart (.slice d1 st.fSpace.fRefs.length f1) (.slice d6 st.fDead.length f6)) (p26 : Apart (.slice d2 st.fSpace.fLast.length f2) (.slice d6 st.fDead.length f6)) :
    StoreD.Own w' D D1 (.agg #[.slice d0 st.fRows.length f0, .slice d1 st.fSpace.fRefs.length f1, .slice d2 st.fSpace.fLast.length f2, .int .i64 (st.fTxg + 1), .slice d4 0 0, .int .i64 st.fKeep, .slice d6 st.fDead.length f6, .bool st.fSame]) st.nextOf := by
  obtain ⟨l0, l1, l2⟩ := dropsRS_len (st.fRows, st.fSpace) st.fGone
  have m0 := (n0.outside hO (.inr hC)).mono hD hD1
  have m1 := (n1.outside hO (.inr hC)).mono hD hD1
  have m2 := (n2.outside hO (.inr hC)).mono hD hD1
  have m6 := (n6.outside hO (.inr hC)).mono hD hD1
  have e0 : st.nextOf.fRows.length = st.fRows.length := l0
  have e1 : st.nextOf.fSpace.fRefs.length = st.fSpace.fRefs.length := l1
  have e2 : st.nextOf.fSpace.fLast.length = st.fSpace.fLast.length := l2
  refine ⟨d0, f0, d1, f1, d2, f2, d4, 0, d6, f6, by rw [e0, e1, e2]; rfl, ?_, ?_, ?_, RowO.empty _ _ _ _ _ _ _, m6, ?_, ?_, apart_nil _ _, ?_, ?_, apart_nil _ _, ?_, apart_nil _ _, ?_, (apart_nil _ _).symm⟩
  · rw [e0]; exact m0
  · rw [e1]; exact m1
  · rw [e2]; exact m2
  · rw [e0, e1]; exact p01
  · rw [e0, e2]; exact p02
  · rw [e0]; exact p06
  · rw [e1, e2]; exact p12
  · rw [e1]; exact p16
  · rw [e2]; exact p26
end Go.Proofs.Ytkgmilobmbeplaa
