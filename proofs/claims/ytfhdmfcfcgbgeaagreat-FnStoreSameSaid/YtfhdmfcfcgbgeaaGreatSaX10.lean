/- A part of the proof in YtfhdmfcfcgbgeaaGreatSaX30. -/
import Derived.Lib.AppendIntMem
import Derived.Shelf.Strconv.Itoa3
import Derived.Shelf.Strings.BuilderF
import Derived.Shelf.Strings.BuilderK
import Derived.Shelf.Strings.OnBuilder
import Derived.Test.YtfhdmfcfcgbgeaaGreatSaX9
namespace Go.Proofs.YtfhdmfcfcgbgeaaGreat
open List (length_append length_cons length_map map_cons mem_cons_of_mem mem_cons_self)
set_option linter.unusedVariables false
set_option linter.unusedSimpArgs false
set_option maxHeartbeats 1000000
set_option maxRecDepth 100000
open Go.RowKit
theorem Zgn (sep : List UInt8) (r : List (List UInt8)) (B : Nat) (h : ∀ x ∈ r, x.length ≤ B) : (Go.Lib.joinTail sep r).length ≤ r.length * (sep.length + B) := by
 induction r with
 | nil => simp [Go.Lib.joinTail]
 | cons x r ih =>
  have h1 := ih fun y hy => h y (mem_cons_of_mem _ hy)
  have h2 := h x (mem_cons_self ..);have e : Go.Lib.joinTail sep (x :: r) = (sep ++ x) ++ Go.Lib.joinTail sep r := by simp [Go.Lib.joinTail]
  rw [e, length_append, length_append, length_cons, Nat.succ_mul]; omega
def Q7 (xs : List ByteArray) (sep : ByteArray) : ByteArray := ⟨(Go.Lib.join (xs.map (·.data.toList)) sep.data.toList).toArray⟩
theorem ZiB (xs : List ByteArray) (sep : ByteArray) (h : szs xs) : (Q7 xs sep).size ≤ xs.length * (sep.size + 1099511627776) := by
 rw [Zi];show (Go.Lib.join (xs.map (·.data.toList)) sep.data.toList).length ≤ _
 cases xs with
 | nil => simp [Go.Lib.join_nil]
 | cons x r =>
  rw [map_cons, Go.Lib.join_cons, length_append];have h0 := h 0;simp only [List.getD_cons_zero] at h0;have h1 := Zgn sep.data.toList (r.map (·.data.toList)) 1099511627776 fun y hy => by
   obtain ⟨z, hz, rfl⟩ := List.mem_map.1 hy;obtain ⟨i, hi, rfl⟩ := List.getElem_of_mem hz;have := h (i + 1);rw [← Zi]
   simpa [List.getD, hi] using this
  rw [length_map] at h1;rw [length_cons, Nat.succ_mul, Zi sep, ← Zi x]; omega
end Go.Proofs.YtfhdmfcfcgbgeaaGreat
