/- Tests of numbers, rows, pointers: of the reference and of the program. -/
import Derived.Test.YtkgmilobmbeplaaPtr
import Derived.BigQuiet
import Derived.Deep.QuietTactic
namespace Go.Proofs.Ytkgmilobmbeplaa
open Go.RowKit

/-- A number lies between two. -/
def inB (n lo hi : Int) : Bool := decide (lo ≤ n) && decide (n ≤ hi)
theorem inB_true {n lo hi : Int} (h : inB n lo hi = true) : lo ≤ n ∧ n ≤ hi := by simpa [inB] using h
theorem inB_mk {n lo hi : Int} (h : lo ≤ n) (k : n ≤ hi) : inB n lo hi = true := by simp [inB, h, k]

set_option maxHeartbeats 400000 in
set_option maxRecDepth 100000 in
theorem l6In_any (a b c : Int) (w : World) :
    Calls Try.prog 45 #[.int .i64 a, .int .i64 b, .int .i64 c] w fun e w' => e = .returned (.bool (inB a b c)) ∧ w = w' := by
  by_cases h1 : b ≤ a
  · have H : Hid (inB a b c = decide (a ≤ c)) := by show _ = _; simp [inB, h1]
    go_enter Try.func45, Try.ntmps45
    go_wp2
    all_goals (go_ret; exact ⟨ret_bool H.out.symm, rfl⟩)
  · have H : Hid (inB a b c = false) := by show _ = _; simp [inB, h1]
    go_enter Try.func45, Try.ntmps45
    go_wp2
    all_goals (go_ret; exact ⟨ret_bool H.out.symm, rfl⟩)

set_option maxHeartbeats 400000 in
set_option maxRecDepth 100000 in
theorem within_any (a b c : Int) (w : World) :
    Calls Try.prog 47 #[.int .i64 a, .int .i64 b, .int .i64 c] w fun e w' => e = .returned (.bool (inB a b c)) ∧ w = w' := by
  by_cases h1 : b ≤ a
  · have H : Hid (inB a b c = decide (a ≤ c)) := by show _ = _; simp [inB, h1]
    go_enter Try.func47, Try.ntmps47
    go_wp2
    all_goals (go_ret; exact ⟨ret_bool H.out.symm, rfl⟩)
  · have H : Hid (inB a b c = false) := by show _ = _; simp [inB, h1]
    go_enter Try.func47, Try.ntmps47
    go_wp2
    all_goals (go_ret; exact ⟨ret_bool H.out.symm, rfl⟩)

set_option maxHeartbeats 400000 in
set_option maxRecDepth 100000 in
theorem l2Row_any (a : Int) (w : World) :
    Calls Try.prog 59 #[.int .i64 a] w fun e w' => e = .returned (.bool (inB a 8 63)) ∧ w = w' := by
  go_enter Try.func59, Try.ntmps59
  go_wp2_with fail
  refine (l6In_any _ _ _ _).mono ?_
  rintro e w' ⟨rfl, rfl⟩
  go_wp2
  go_ret
  exact ⟨rfl, rfl⟩

set_option maxHeartbeats 400000 in
set_option maxRecDepth 100000 in
theorem isRow_any (a : Int) (w : World) :
    Calls Try.prog 63 #[.int .i64 a] w fun e w' => e = .returned (.bool (inB a 8 63)) ∧ w = w' := by
  go_enter Try.func63, Try.ntmps63
  go_wp2_with fail
  refine (within_any _ _ _ _).mono ?_
  rintro e w' ⟨rfl, rfl⟩
  go_wp2
  go_ret
  exact ⟨rfl, rfl⟩

/-- The zero pointer. -/
def PtrD.hole (p : PtrD) : Bool := p.fAt == 0 && p.fBirth == 0 && p.fSize == 0 && p.fSum == 0 && p.fLevel == 0
def PtrD.ok (p : PtrD) : Bool := p.hole || inB p.fAt 8 63 && inB p.fBirth 1 900 && inB p.fSize 1 128 && inB p.fSum 0 99460728 && inB p.fLevel 0 2

set_option maxHeartbeats 400000 in
set_option maxRecDepth 100000 in
theorem specHole_any (p : PtrD) (w : World) :
    Calls Try.prog 88 #[.agg #[.int .i64 p.fAt, .int .i64 p.fBirth, .int .i64 p.fSize, .int .i64 p.fSum, .int .i64 p.fLevel]] w fun e w' => e = .returned (.bool p.hole) ∧ Below w.heap.size w w' := by
  go_enter Try.func88, Try.ntmps88
  go_wp2
  all_goals
    go_ret
    refine ⟨ret_bool ?_, (Below.refl _ _).alloc (Nat.le_refl _) _⟩
    unfold PtrD.hole
    simp [*]

set_option maxHeartbeats 400000 in
set_option maxRecDepth 100000 in
theorem implHole_any (p : PtrD) (w : World) :
    Calls Try.prog 91 #[.agg #[.int .i64 p.fAt, .int .i64 p.fBirth, .int .i64 p.fSize, .int .i64 p.fSum, .int .i64 p.fLevel]] w fun e w' => e = .returned (.bool p.hole) ∧ Below w.heap.size w w' := by
  go_enter Try.func91, Try.ntmps91
  go_wp2
  all_goals
    go_ret
    refine ⟨ret_bool ?_, (Below.refl _ _).alloc (Nat.le_refl _) _⟩
    unfold PtrD.hole
    simp [*]

set_option maxHeartbeats 400000 in
set_option maxRecDepth 100000 in
theorem specPtrOk_any (p : PtrD) (w : World) :
    Calls Try.prog 87 #[.agg #[.int .i64 p.fAt, .int .i64 p.fBirth, .int .i64 p.fSize, .int .i64 p.fSum, .int .i64 p.fLevel]] w fun e w' => e = .returned (.bool p.ok) ∧ Below w.heap.size w w' := by
  go_enter Try.func87, Try.ntmps87
  go_wp2_with (first | (go_at_call 88; refine (specHole_any p _).mono ?_; rintro e w1 ⟨rfl, hb1⟩; obtain ⟨hc1, _⟩ := bcell hb1) | (go_at_call 59; refine (l2Row_any _ _).mono ?_; rintro e w' ⟨rfl, rfl⟩) | (go_at_call 45; refine (l6In_any _ _ _ _).mono ?_; rintro e w' ⟨rfl, rfl⟩))
  all_goals
    go_ret
    refine ⟨ret_bool ?_, ((Below.refl _ _).alloc (Nat.le_refl _) _).trans (hb1.mono (by simp))⟩
    unfold PtrD.ok
    simp [*]

set_option maxHeartbeats 400000 in
set_option maxRecDepth 100000 in
theorem implPtrOk_any (p : PtrD) (w : World) :
    Calls Try.prog 90 #[.agg #[.int .i64 p.fAt, .int .i64 p.fBirth, .int .i64 p.fSize, .int .i64 p.fSum, .int .i64 p.fLevel]] w fun e w' => e = .returned (.bool p.ok) ∧ Below w.heap.size w w' := by
  go_enter Try.func90, Try.ntmps90
  go_wp2_with (first | (go_at_call 91; refine (implHole_any p _).mono ?_; rintro e w1 ⟨rfl, hb1⟩; obtain ⟨hc1, _⟩ := bcell hb1) | (go_at_call 63; refine (isRow_any _ _).mono ?_; rintro e w' ⟨rfl, rfl⟩) | (go_at_call 47; refine (within_any _ _ _ _).mono ?_; rintro e w' ⟨rfl, rfl⟩))
  all_goals
    go_ret
    refine ⟨ret_bool ?_, ((Below.refl _ _).alloc (Nat.le_refl _) _).trans (hb1.mono (by simp))⟩
    unfold PtrD.ok
    simp [*]

end Go.Proofs.Ytkgmilobmbeplaa
