/- What StoreWrite gives, by both sides: plain. -/
import Derived.Test.YtfijfjjleelphaaSwP
import Derived.Test.YtfijfjjleelphaaStoreP
namespace Go.Proofs.Ytfijfjjleelphaa
open Go.RowKit

def likeS (st : StoreD) (text : ByteArray) (level : Int) : Int := if st.fSame && (level == 0) then likeR st text else -1
/-- The row that the reference writes to, less than 0 if there is none. -/
def writeS (st : StoreD) (text : ByteArray) (level : Int) : Int := if likeS st text level < 0 then freeR st.fSpace else likeS st text level
def StoreD.mayW (st : StoreD) (text : ByteArray) (level : Int) : Bool := st.ok && (inB text.size 1 128 && (inB level 0 2 && decide (writeAt st text level < 64)))
def StoreD.wrote (st : StoreD) (text : ByteArray) (level : Int) : StoreD := if st.mayW text level then st.putAt (writeAt st text level) (st.fRows.set (writeAt st text level) text) else StoreD.zero
def StoreD.wptr (st : StoreD) (text : ByteArray) (level : Int) : PtrD := if st.mayW text level then ptrAt (writeAt st text level : Nat) st.fTxg level text else PtrD.zero

theorem bytes_inj {a b : ByteArray} (h : (a.toList == b.toList) = true) : a = b := by
  have h := eq_of_beq h
  rw [ByteArray.toList_eq, ByteArray.toList_eq] at h
  exact ByteArray.ext (Array.toList_inj.1 h)
section
variable {st : StoreD} {text : ByteArray} {level : Int}
theorem W_not (h : (st.ok && (inB text.size 1 128 && inB level 0 2)) = false) : st.mayW text level = false ∧ st.wrote text level = StoreD.zero ∧ st.wptr text level = PtrD.zero := by
  have hm : st.mayW text level = false := by
    unfold StoreD.mayW
    cases h1 : st.ok <;> cases h2 : inB text.size 1 128 <;> cases h3 : inB level 0 2 <;> simp_all
  exact ⟨hm, by unfold StoreD.wrote; rw [hm]; rfl, by unfold StoreD.wptr; rw [hm]; rfl⟩
theorem W_none (h : writeAt st text level = 64) : st.mayW text level = false ∧ st.wrote text level = StoreD.zero ∧ st.wptr text level = PtrD.zero := by
  have hm : st.mayW text level = false := by unfold StoreD.mayW; rw [h]; simp
  exact ⟨hm, by unfold StoreD.wrote; rw [hm]; rfl, by unfold StoreD.wptr; rw [hm]; rfl⟩
theorem like_hit (h : likeAt st text level < 64) : likeI st text (likeAt st text level) = true := by
  unfold likeAt at h ⊢
  split
  · rename_i hs
    rw [if_pos hs] at h
    exact findUp_hit _ 64 0 (by omega)
  · rename_i hs
    rw [if_neg hs] at h
    omega
theorem W_yes (hok : st.ok = true) (hsz : inB text.size 1 128 = true) (hlv : inB level 0 2 = true) {i : Nat} (hi : i < 64) (hw : writeAt st text level = i) :
    st.mayW text level = true ∧ st.wrote text level = st.putAt i (st.fRows.set i text) ∧ st.wptr text level = ptrAt (i : Int) st.fTxg level text ∧ ptrOk (i : Int) st.fTxg level text = true ∧ (likeAt st text level < 64 → st.fRows.set i text = st.fRows) := by
  have hO := StoreD.ok_spec hok
  have hP := SpaceD.ok_spec hO.space
  have hm : st.mayW text level = true := by unfold StoreD.mayW; rw [hok, hsz, hlv, hw]; simp [hi]
  have h8 : 8 ≤ i := by
    by_cases hl : likeAt st text level < 64
    · have := like_hit hl
      have e : likeAt st text level = i := by unfold writeAt at hw; rw [if_pos hl] at hw; exact hw
      rw [e] at this
      unfold likeI at this
      simp only [Bool.and_eq_true, decide_eq_true_eq] at this
      rcases Nat.lt_or_ge i 8 with h | h
      · have := (hP.each i hi).2.2.2.2 h; omega
      · exact h
    · unfold writeAt at hw
      rw [if_neg hl] at hw
      have := findUp_bounds (usedB st) 56 8
      omega
  refine ⟨hm, by unfold StoreD.wrote; rw [hm, hw]; rfl, by unfold StoreD.wptr; rw [hm, hw]; rfl, ?_, fun hl => ?_⟩
  · have := sumOf_le text
    have h1 := hO.txg
    have h2 := inB_true hsz
    have h3 := inB_true hlv
    unfold ptrOk PtrD.ok ptrAt
    rw [hsz]
    dsimp only
    rw [inB_mk (by omega) (by omega), inB_mk (by omega) (by omega), inB_mk (by omega) (by omega), inB_mk (by omega) (by omega)]
    simp
  · have := like_hit hl
    have e : likeAt st text level = i := by unfold writeAt at hw; rw [if_pos hl] at hw; exact hw
    rw [e] at this
    unfold likeI at this
    simp only [Bool.and_eq_true] at this
    have h1 := bytes_inj this.1.1.2
    have hl2 : i < st.fRows.length := by rw [hO.rows]; exact hi
    refine List.ext_getElem (by simp) fun j h2 h3 => ?_
    rw [List.getElem_set]
    split
    · rename_i e2
      subst e2
      rw [← h1]; simp [List.getD, hl2]
    · rfl
/-- The reference searches for the same row. -/
theorem W_spec (hok : st.ok = true) (hsz : inB text.size 1 128 = true) : (writeS st text level < 0 → writeAt st text level = 64) ∧ ∀ i : Nat, writeS st text level = i → writeAt st text level = i := by
  have hO := StoreD.ok_spec hok
  have hP := SpaceD.ok_spec hO.space
  have hs := inB_true hsz
  have hlike : findUp (likeI st text) 64 0 = findUp (likeB st text) 56 8 := by
    have h0 : findUp (likeI st text) (8 + 56) 0 = findUp (likeI st text) 56 (0 + 8) := findUp_skip 8 56 0 fun i _ h2 => by
      have := (hP.each i (by omega)).2.2.2.2 (by omega)
      unfold likeI
      rw [this]; rfl
    refine h0.trans (findUp_congr 56 8 fun i h1 h2 => ?_)
    have hi : i < 64 := by omega
    have he := hP.each i hi
    have hr := rowsSt_le hO.each hi
    unfold likeI likeB
    cases h3 : ((st.fRows.getD i ByteArray.empty).toList == text.toList) with
    | false => cases decide (0 < st.fSpace.fRefs.getD i 0) <;> rfl
    | true =>
      have h4 := bytes_inj h3
      unfold rowSt at hr
      simp only [Bool.and_eq_true, beq_iff_eq, decide_eq_true_eq, Bool.not_eq_true', bne_iff_ne] at hr
      have h5 : st.fSpace.fRefs.getD i 0 ≠ 0 := fun h0 => by
        have hz : (st.fRows.getD i ByteArray.empty).size ≠ 0 := by rw [h4]; omega
        simp_all
      have h6 : decide (0 < st.fSpace.fRefs.getD i 0) = true := decide_eq_true (by omega)
      rw [h6]; rfl
  have hfree : findUp (usedB st) 56 8 = findUp (freeB st.fSpace) 56 8 := findUp_congr 56 8 fun i h1 h2 => by
    have he := hP.each i (by omega)
    unfold usedB freeB
    by_cases h0 : st.fSpace.fRefs.getD i 0 = 0
    · rw [h0]; rfl
    · have h1 : decide (0 < st.fSpace.fRefs.getD i 0) = true := decide_eq_true (by omega)
      rw [h1, beq_eq_false_iff_ne.2 h0]; rfl
  have hb1 := findUp_bounds (likeB st text) 56 8
  have hb2 := findUp_bounds (freeB st.fSpace) 56 8
  unfold writeS writeAt likeS likeAt likeR freeR
  rw [hlike, hfree]
  cases hsm : (st.fSame && (level == 0)) with
  | true =>
    simp only [if_true]
    unfold atOr
    constructor
    · split <;> split <;> (try split) <;> omega
    · intro i; split <;> split <;> (try split) <;> omega
  | false =>
    simp only [Bool.false_eq_true, if_false]
    unfold atOr
    constructor
    · simp; split <;> omega
    · intro i; simp; split <;> omega
end
end Go.Proofs.Ytfijfjjleelphaa
