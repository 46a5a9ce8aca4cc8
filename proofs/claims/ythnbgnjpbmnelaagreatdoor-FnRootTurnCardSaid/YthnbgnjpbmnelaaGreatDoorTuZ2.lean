/- A part of the proof in YthnbgnjpbmnelaaGreatDoorTuZ31. -/
import Derived.BigQuiet
import Derived.Deep.QuietTactic
import Derived.Deep.RegionWith
import Derived.StillTailTactics
import Derived.Test.YthnbgnjpbmnelaaGreatDoorRows
import Derived.Test.YthnbgnjpbmnelaaGreatDoorTuZ1
/- The laws' helpers over pointers. -/
namespace Go.Proofs.YthnbgnjpbmnelaaGreatDoor
set_option linter.unusedVariables false
set_option linter.unusedSimpArgs false
set_option maxHeartbeats 1000000
set_option maxRecDepth 100000
open Go.RowKit

structure Ys where
  fAt : Int
  fBirth : Int
  fSize : Int
  fSum : Int
  fLevel : Int
abbrev pV (p : Ys) : Value := .agg #[.int .i64 p.fAt, .int .i64 p.fBirth, .int .i64 p.fSize, .int .i64 p.fSum, .int .i64 p.fLevel]
end Go.Proofs.YthnbgnjpbmnelaaGreatDoor

/- Tests of numbers, rows, pointers: of the reference and of the program. -/
namespace Go.Proofs.YthnbgnjpbmnelaaGreatDoor
set_option linter.unusedVariables false
set_option linter.unusedSimpArgs false
set_option maxHeartbeats 1000000
set_option maxRecDepth 100000
open Go.RowKit

/-- A number lies between two. -/
def inB (n lo hi : Int) : Bool := decide (lo ≤ n) && decide (n ≤ hi)
theorem Xq {n lo hi : Int} (h : inB n lo hi = true) : lo ≤ n ∧ n ≤ hi := by simpa [inB] using h
theorem XF (a b c : Int) (w : World) :
    Calls Tryz.prog 34 #[.int .i64 a, .int .i64 b, .int .i64 c] w fun e w' => e = .returned (.bool (inB a b c)) ∧ w = w' := by
  by_cases h1 : b ≤ a
  · have H : Hid (inB a b c = decide (a ≤ c)) := by show _ = _; simp [inB, h1]
    go_enter Tryz.func34, Tryz.ntmps34
    go_wp2
    all_goals (go_ret; exact ⟨XD H.out.symm, rfl⟩)
  · have H : Hid (inB a b c = false) := by show _ = _; simp [inB, h1]
    go_enter Tryz.func34, Tryz.ntmps34
    go_wp2
    all_goals (go_ret; exact ⟨XD H.out.symm, rfl⟩)

theorem Xn (a b c : Int) (w : World) :
    Calls Tryz.prog 44 #[.int .i64 a, .int .i64 b, .int .i64 c] w fun e w' => e = .returned (.bool (inB a b c)) ∧ w = w' := by
  by_cases h1 : b ≤ a
  · have H : Hid (inB a b c = decide (a ≤ c)) := by show _ = _; simp [inB, h1]
    go_enter Tryz.func44, Tryz.ntmps44
    go_wp2
    all_goals (go_ret; exact ⟨XD H.out.symm, rfl⟩)
  · have H : Hid (inB a b c = false) := by show _ = _; simp [inB, h1]
    go_enter Tryz.func44, Tryz.ntmps44
    go_wp2
    all_goals (go_ret; exact ⟨XD H.out.symm, rfl⟩)

theorem Zcd (a : Int) (w : World) :
    Calls Tryz.prog 168 #[.int .i64 a] w fun e w' => e = .returned (.bool (inB a 8 63)) ∧ w = w' := by
  go_enter Tryz.func168, Tryz.ntmps168
  go_wp2_with fail
  refine (XF _ _ _ _).mono ?_;rintro e w' ⟨rfl, rfl⟩
  go_wp2
  go_ret
  exact ⟨rfl, rfl⟩

theorem Zce (a : Int) (w : World) :
    Calls Tryz.prog 160 #[.int .i64 a] w fun e w' => e = .returned (.bool (inB a 8 63)) ∧ w = w' := by
  go_enter Tryz.func160, Tryz.ntmps160
  go_wp2_with fail
  refine (Xn _ _ _ _).mono ?_;rintro e w' ⟨rfl, rfl⟩
  go_wp2
  go_ret
  exact ⟨rfl, rfl⟩

/-- The zero pointer. -/
def Ys.hole (p : Ys) : Bool := p.fAt == 0 && p.fBirth == 0 && p.fSize == 0 && p.fSum == 0 && p.fLevel == 0
def Ys.ok (p : Ys) : Bool := p.hole || inB p.fAt 8 63 && inB p.fBirth 1 900 && inB p.fSize 1 128 && inB p.fSum 0 99460728 && inB p.fLevel 0 2

theorem JL (p : Ys) (w : World) :
    Calls Tryz.prog 100 #[.agg #[.int .i64 p.fAt, .int .i64 p.fBirth, .int .i64 p.fSize, .int .i64 p.fSum, .int .i64 p.fLevel]] w fun e w' => e = .returned (.bool p.hole) ∧ Below w.heap.size w w' := by
  go_enter Tryz.func100, Tryz.ntmps100
  go_wp2
  all_goals
    go_ret
    refine ⟨XD ?_, (Below.refl _ _).alloc (Nat.le_refl _) _⟩;unfold Ys.hole;simp [*]

theorem JM (p : Ys) (w : World) :
    Calls Tryz.prog 90 #[.agg #[.int .i64 p.fAt, .int .i64 p.fBirth, .int .i64 p.fSize, .int .i64 p.fSum, .int .i64 p.fLevel]] w fun e w' => e = .returned (.bool p.hole) ∧ Below w.heap.size w w' := by
  go_enter Tryz.func90, Tryz.ntmps90
  go_wp2
  all_goals
    go_ret
    refine ⟨XD ?_, (Below.refl _ _).alloc (Nat.le_refl _) _⟩;unfold Ys.hole;simp [*]

theorem Qm (p : Ys) (w : World) :
    Calls Tryz.prog 99 #[.agg #[.int .i64 p.fAt, .int .i64 p.fBirth, .int .i64 p.fSize, .int .i64 p.fSum, .int .i64 p.fLevel]] w fun e w' => e = .returned (.bool p.ok) ∧ Below w.heap.size w w' := by
  go_enter Tryz.func99, Tryz.ntmps99
  go_wp2_with (first | (go_at_call 100; refine (JL p _).mono ?_; rintro e w1 ⟨rfl, hb1⟩; obtain ⟨hc1, _⟩ := ZeH hb1) | (go_at_call 168; refine (Zcd _ _).mono ?_; rintro e w' ⟨rfl, rfl⟩) | (go_at_call 34; refine (XF _ _ _ _).mono ?_; rintro e w' ⟨rfl, rfl⟩))
  all_goals
    go_ret
    refine ⟨XD ?_, ((Below.refl _ _).alloc (Nat.le_refl _) _).trans (hb1.mono (by simp))⟩;unfold Ys.ok;simp [*]

theorem Jh (p : Ys) (w : World) :
    Calls Tryz.prog 89 #[.agg #[.int .i64 p.fAt, .int .i64 p.fBirth, .int .i64 p.fSize, .int .i64 p.fSum, .int .i64 p.fLevel]] w fun e w' => e = .returned (.bool p.ok) ∧ Below w.heap.size w w' := by
  go_enter Tryz.func89, Tryz.ntmps89
  go_wp2_with (first | (go_at_call 90; refine (JM p _).mono ?_; rintro e w1 ⟨rfl, hb1⟩; obtain ⟨hc1, _⟩ := ZeH hb1) | (go_at_call 160; refine (Zce _ _).mono ?_; rintro e w' ⟨rfl, rfl⟩) | (go_at_call 44; refine (Xn _ _ _ _).mono ?_; rintro e w' ⟨rfl, rfl⟩))
  all_goals
    go_ret
    refine ⟨XD ?_, ((Below.refl _ _).alloc (Nat.le_refl _) _).trans (hb1.mono (by simp))⟩;unfold Ys.ok;simp [*]

end Go.Proofs.YthnbgnjpbmnelaaGreatDoor

/- The laws' helpers over slices of numbers and of strings. -/
namespace Go.Proofs.YthnbgnjpbmnelaaGreatDoor
set_option linter.unusedVariables false
set_option linter.unusedSimpArgs false
set_option maxHeartbeats 1000000
set_option maxRecDepth 100000
open Go.RowKit

theorem Tryz.infoStringS : (Tryz.prog.info? 9).map (fun i => (i.zero, i.size, i.bytes)) = some (some (.string ByteArray.empty), 1, 16) := by kernel_rfl
end Go.Proofs.YthnbgnjpbmnelaaGreatDoor
