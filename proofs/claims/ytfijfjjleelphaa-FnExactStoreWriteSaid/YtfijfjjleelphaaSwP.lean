/- What writing to a store computes: plain. -/
import Derived.Test.YtfijfjjleelphaaPut
import Derived.Test.YtfijfjjleelphaaOk
namespace Go.Proofs.Ytfijfjjleelphaa
open Go.RowKit

/-! ### The checksum -/
def sumF (s : ByteArray) : Nat → Int × Int
  | 0 => (1, 0)
  | k + 1 => (((sumF s k).1 + ((s.get! k).toNat : Int) + 1) % 9973, ((sumF s k).2 + ((sumF s k).1 + ((s.get! k).toNat : Int) + 1) % 9973) % 9973)
def sumOf (s : ByteArray) : Int := (sumF s s.size).1 * 9973 + (sumF s s.size).2
theorem sumF_le (s : ByteArray) (k : Nat) : 0 ≤ (sumF s k).1 ∧ (sumF s k).1 < 9973 ∧ 0 ≤ (sumF s k).2 ∧ (sumF s k).2 < 9973 := by
  cases k with
  | zero => simp [sumF]
  | succ k => unfold sumF; dsimp only; omega
theorem sumOf_le (s : ByteArray) : 0 ≤ sumOf s ∧ sumOf s ≤ 99460728 := by
  have := sumF_le s s.size
  unfold sumOf; omega
theorem byte_le (s : ByteArray) (k : Nat) : (0 : Int) ≤ ((s.get! k).toNat : Int) ∧ ((s.get! k).toNat : Int) ≤ 255 := by
  have := (s.get! k).toNat_lt
  omega

/-! ### The first that answers yes -/
def findUp (p : Nat → Bool) : Nat → Nat → Nat
  | 0, k => k
  | f + 1, k => if p k then k else findUp p f (k + 1)
theorem findUp_yes {p : Nat → Bool} {f k : Nat} (h : p k = true) : findUp p (f + 1) k = k := by simp [findUp, h]
theorem findUp_no {p : Nat → Bool} {f k : Nat} (h : p k = false) : findUp p (f + 1) k = findUp p f (k + 1) := by simp [findUp, h]
theorem findUp_bounds (p : Nat → Bool) (f k : Nat) : k ≤ findUp p f k ∧ findUp p f k ≤ k + f := by
  induction f generalizing k with
  | zero => simp [findUp]
  | succ f ih =>
    unfold findUp
    split
    · omega
    · have := ih (k + 1); omega
theorem findUp_hit (p : Nat → Bool) (f k : Nat) (h : findUp p f k < k + f) : p (findUp p f k) = true := by
  induction f generalizing k with
  | zero => simp [findUp] at h
  | succ f ih =>
    unfold findUp at h ⊢
    split
    · assumption
    · rename_i hp
      rw [if_neg hp] at h
      exact ih (k + 1) (by omega)
theorem findUp_congr {p q : Nat → Bool} (f k : Nat) (h : ∀ i, k ≤ i → i < k + f → p i = q i) : findUp p f k = findUp q f k := by
  induction f generalizing k with
  | zero => rfl
  | succ f ih =>
    unfold findUp
    rw [h k (Nat.le_refl _) (by omega), ih (k + 1) (fun i h1 h2 => h i (by omega) (by omega))]
theorem findUp_skip {p : Nat → Bool} (n f k : Nat) (h : ∀ i, k ≤ i → i < k + n → p i = false) : findUp p (n + f) k = findUp p f (k + n) := by
  induction n generalizing k with
  | zero => simp
  | succ n ih =>
    rw [show n + 1 + f = (n + f) + 1 by omega, findUp_no (h k (Nat.le_refl _) (by omega)), ih (k + 1) (fun i h1 h2 => h i (by omega) (by omega)), show k + 1 + n = k + (n + 1) by omega]

/-! ### The pointer to a block -/
def ptrAt (at_ birth level : Int) (text : ByteArray) : PtrD := { fAt := at_, fBirth := birth, fSize := text.size, fSum := sumOf text, fLevel := level }
def PtrD.zero : PtrD := { fAt := 0, fBirth := 0, fSize := 0, fSum := 0, fLevel := 0 }
def ptrOk (at_ birth level : Int) (text : ByteArray) : Bool := inB text.size 1 128 && (ptrAt at_ birth level text).ok
def ptrOf (at_ birth level : Int) (text : ByteArray) : PtrD := if ptrOk at_ birth level text then ptrAt at_ birth level text else PtrD.zero
theorem ptrOf_no {a b l : Int} {s : ByteArray} (h : ptrOk a b l s = false) : ptrOf a b l s = PtrD.zero := by unfold ptrOf; rw [h]; rfl
theorem ptrOf_yes {a b l : Int} {s : ByteArray} (h : ptrOk a b l s = true) : ptrOf a b l s = ptrAt a b l s := by unfold ptrOf; rw [h]; rfl

/-! ### Rows that are alike, rows that are free -/
def likeB (st : StoreD) (text : ByteArray) (i : Nat) : Bool := ((st.fRows.getD i ByteArray.empty).toList == text.toList) && decide (st.fSpace.fLast.getD i 0 < st.fTxg) && decide (st.fSpace.fRefs.getD i 0 < st.fTxg)
def atOr (k : Nat) : Int := if k < 64 then (k : Int) else -1
def likeR (st : StoreD) (text : ByteArray) : Int := atOr (findUp (likeB st text) 56 8)
def freeB (s : SpaceD) (i : Nat) : Bool := s.fRefs.getD i 0 == 0
def freeR (s : SpaceD) : Int := atOr (findUp (freeB s) 56 8)
theorem atOr_lt {k : Nat} (h : k < 64) : atOr k = k := by simp [atOr, h]
theorem atOr_64 : atOr 64 = -1 := rfl
theorem find_step {p : Nat → Bool} {k : Nat} (hk : k < 64) (hp : p k = false) {n : Nat} (h : findUp p 56 8 = n) (hn : n = findUp p (64 - k) k) : findUp p 56 8 = findUp p (64 - (k + 1)) (k + 1) := by
  rw [h, hn, show 64 - k = (64 - (k + 1)) + 1 by omega, findUp_no hp]
theorem find_here {p : Nat → Bool} {k : Nat} (hk : k < 64) (hp : p k = true) (h : findUp p 56 8 = findUp p (64 - k) k) : findUp p 56 8 = k := by
  rw [h, show 64 - k = (63 - k) + 1 by omega, findUp_yes hp]
theorem find_end {p : Nat → Bool} {k : Nat} (hk : k = 64) (h : findUp p 56 8 = findUp p (64 - k) k) : findUp p 56 8 = 64 := by
  rw [h, hk]; rfl
def inL (xs : List Int) (n : Int) : Bool := xs.any (· == n)
theorem inL_here {xs : List Int} {k : Nat} {n : Int} (hk : k < xs.length) (h : (xs.getD k 0 == n) = true) : inL xs n = true := by
  unfold inL
  rw [List.any_eq_true]
  refine ⟨xs[k], List.getElem_mem hk, ?_⟩
  simpa [List.getD, hk] using h
theorem inL_step {xs : List Int} {k : Nat} {n : Int} (hk : k < xs.length) (h : (xs.getD k 0 == n) = false) (hp : (xs.take k).any (· == n) = false) : (xs.take (k + 1)).any (· == n) = false := by
  rw [List.take_succ_eq_append_getElem hk, List.any_append, hp]
  simpa [List.getD, hk] using h
theorem inL_end {xs : List Int} {k : Nat} {n : Int} (hk : ¬ k < xs.length) (hp : (xs.take k).any (· == n) = false) : inL xs n = false := by
  rw [List.take_of_length_le (by omega)] at hp; exact hp

/-! ### A block written -/
def likeI (st : StoreD) (text : ByteArray) (i : Nat) : Bool := decide (0 < st.fSpace.fRefs.getD i 0) && ((st.fRows.getD i ByteArray.empty).toList == text.toList) && decide (st.fSpace.fLast.getD i 0 < st.fTxg) && decide (st.fSpace.fRefs.getD i 0 < st.fTxg)
def usedB (st : StoreD) (i : Nat) : Bool := !decide (0 < st.fSpace.fRefs.getD i 0)
/-- The row of the program's own search for a like text, 64 if there is none. -/
def likeAt (st : StoreD) (text : ByteArray) (level : Int) : Nat := if st.fSame && (level == 0) then findUp (likeI st text) 64 0 else 64
def writeAt (st : StoreD) (text : ByteArray) (level : Int) : Nat := if likeAt st text level < 64 then likeAt st text level else findUp (usedB st) 56 8
def StoreD.putAt (st : StoreD) (i : Nat) (rows : List ByteArray) : StoreD := { st with fRows := rows, fSpace := { fRefs := st.fSpace.fRefs.set i (st.fSpace.fRefs.getD i 0 + 1), fLast := st.fSpace.fLast.set i st.fTxg } }
theorem find0_step {p : Nat → Bool} {k : Nat} (hk : k < 64) (hp : p k = false) (h : findUp p 64 0 = findUp p (64 - k) k) : findUp p 64 0 = findUp p (64 - (k + 1)) (k + 1) := by
  rw [h, show 64 - k = (64 - (k + 1)) + 1 by omega, findUp_no hp]
theorem find0_here {p : Nat → Bool} {k : Nat} (hk : k < 64) (hp : p k = true) (h : findUp p 64 0 = findUp p (64 - k) k) : findUp p 64 0 = k := by
  rw [h, show 64 - k = (63 - k) + 1 by omega, findUp_yes hp]
theorem find0_end {p : Nat → Bool} {k : Nat} (hk : k = 64) (h : findUp p 64 0 = findUp p (64 - k) k) : findUp p 64 0 = 64 := by
  rw [h, hk]; rfl
end Go.Proofs.Ytfijfjjleelphaa
