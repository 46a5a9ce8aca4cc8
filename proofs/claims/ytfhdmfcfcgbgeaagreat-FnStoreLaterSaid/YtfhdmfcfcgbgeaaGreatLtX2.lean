/- A part of the proof in YtfhdmfcfcgbgeaaGreatLtX30. -/
import Derived.BigQuiet
import Derived.Deep.QuietTactic
import Derived.Deep.RegionWith
import Derived.StillTailTactics
import Derived.Test.YtfhdmfcfcgbgeaaGreatRows
import Derived.Test.YtfhdmfcfcgbgeaaGreatLtX1
namespace Go.Proofs.YtfhdmfcfcgbgeaaGreat
open Go.Proofs.Tryz
set_option linter.unusedVariables false
set_option linter.unusedSimpArgs false
set_option maxHeartbeats 1000000
set_option maxRecDepth 100000
open Go.RowKit
structure PtrD where
  aA : Int
  al : Int
  aw : Int
  aC : Int
  ar : Int
abbrev pL (p : PtrD) : List Value := [.int .i64 p.aA, .int .i64 p.al, .int .i64 p.aw, .int .i64 p.aC, .int .i64 p.ar]
abbrev pV (p : PtrD) : Value := .agg #[.int .i64 p.aA, .int .i64 p.al, .int .i64 p.aw, .int .i64 p.aC, .int .i64 p.ar]
def PtrD.cells (x : PtrD) : List Value := [.int .i64 x.aA, .int .i64 x.al, .int .i64 x.aw, .int .i64 x.aC, .int .i64 x.ar]
theorem PtrD.cells_len (x : PtrD) : x.cells.length = 5 := rfl
theorem PtrD.at_ {w : World} {b o : Nat} {x : PtrD} (h : w.rangeAt b o x.cells) :
  w.cell? ⟨b, o, none⟩ = some (.int .i64 x.aA) ∧ w.cell? ⟨b, o + 1, none⟩ = some (.int .i64 x.al) ∧ w.cell? ⟨b, o + 2, none⟩ = some (.int .i64 x.aw) ∧ w.cell? ⟨b, o + 3, none⟩ = some (.int .i64 x.aC) ∧ w.cell? ⟨b, o + 4, none⟩ = some (.int .i64 x.ar) :=
 ⟨h 0 _ rfl, h 1 _ rfl, h 2 _ rfl, h 3 _ rfl, h 4 _ rfl⟩
theorem Tryz.infoPtrS : (Tryz.prog.info? 31).map (fun i => (i.zero, i.size, i.bytes)) = some (some (.agg #[.int .i64 0, .int .i64 0, .int .i64 0, .int .i64 0, .int .i64 0]), 5, 40) := by kernel_rfl
def inB (n lo hi : Int) : Bool := decide (lo ≤ n) && decide (n ≤ hi)
theorem Zw {n lo hi : Int} (h : inB n lo hi = true) : lo ≤ n ∧ n ≤ hi := by simpa [inB] using h
theorem XK {n lo hi : Int} (h : lo ≤ n) (k : n ≤ hi) : inB n lo hi = true := by simp [inB, h, k]
theorem Z1 (a b c : Int) (w : World) :
  Calls prog 51 #[.int .i64 a, .int .i64 b, .int .i64 c] w fun e w' => e = .returned (.bool (inB a b c)) ∧ w = w' := by
 by_cases h1 : b ≤ a
 ·have H : Hid (inB a b c = decide (a ≤ c)) := by show _ = _; simp [inB, h1]
  go_enter func51, ntmps51
  go_wp2
  all_goals (go_ret; exact ⟨Zs H.out.symm, rfl⟩)
 ·have H : Hid (inB a b c = false) := by show _ = _; simp [inB, h1]
  go_enter func51, ntmps51
  go_wp2
  all_goals (go_ret; exact ⟨Zs H.out.symm, rfl⟩)
theorem YK (a b c : Int) (w : World) :
  Calls prog 47 #[.int .i64 a, .int .i64 b, .int .i64 c] w fun e w' => e = .returned (.bool (inB a b c)) ∧ w = w' := by
 by_cases h1 : b ≤ a
 ·have H : Hid (inB a b c = decide (a ≤ c)) := by show _ = _; simp [inB, h1]
  go_enter func47, ntmps47
  go_wp2
  all_goals (go_ret; exact ⟨Zs H.out.symm, rfl⟩)
 ·have H : Hid (inB a b c = false) := by show _ = _; simp [inB, h1]
  go_enter func47, ntmps47
  go_wp2
  all_goals (go_ret; exact ⟨Zs H.out.symm, rfl⟩)
theorem X5 (a : Int) (w : World) :
  Calls prog 79 #[.int .i64 a] w fun e w' => e = .returned (.bool (inB a 8 63)) ∧ w = w' := by
 go_enter func79, ntmps79
 go_wp2_with fail
 refine (Z1 _ _ _ _).mono ?_;rintro e w' ⟨rfl, rfl⟩
 go_wp2
 go_ret
 exact ⟨rfl, rfl⟩
theorem ZjY (a : Int) (w : World) :
  Calls prog 78 #[.int .i64 a] w fun e w' => e = .returned (.bool (inB a 8 63)) ∧ w = w' := by
 go_enter func78, ntmps78
 go_wp2_with fail
 refine (YK _ _ _ _).mono ?_;rintro e w' ⟨rfl, rfl⟩
 go_wp2
 go_ret
 exact ⟨rfl, rfl⟩
def PtrD.hole (p : PtrD) : Bool := p.aA == 0 && p.al == 0 && p.aw == 0 && p.aC == 0 && p.ar == 0
def PtrD.ok (p : PtrD) : Bool := p.hole || inB p.aA 8 63 && inB p.al 1 900 && inB p.aw 1 128 && inB p.aC 0 99460728 && inB p.ar 0 2
theorem ZA (p : PtrD) (w : World) :
  Calls prog 52 #[.agg #[.int .i64 p.aA, .int .i64 p.al, .int .i64 p.aw, .int .i64 p.aC, .int .i64 p.ar]] w fun e w' => e = .returned (.bool p.hole) ∧ Below w.heap.size w w' := by
 go_enter func52, ntmps52
 go_wp2
 all_goals
  go_ret
  refine ⟨Zs ?_, (Below.refl _ _).alloc (Nat.le_refl _) _⟩;unfold PtrD.hole;simp [*]
theorem X6 (p : PtrD) (w : World) :
  Calls prog 15 #[.agg #[.int .i64 p.aA, .int .i64 p.al, .int .i64 p.aw, .int .i64 p.aC, .int .i64 p.ar]] w fun e w' => e = .returned (.bool p.hole) ∧ Below w.heap.size w w' := by
 go_enter func15, ntmps15
 go_wp2
 all_goals
  go_ret
  refine ⟨Zs ?_, (Below.refl _ _).alloc (Nat.le_refl _) _⟩;unfold PtrD.hole;simp [*]
theorem ZR (p : PtrD) (w : World) :
  Calls prog 43 #[.agg #[.int .i64 p.aA, .int .i64 p.al, .int .i64 p.aw, .int .i64 p.aC, .int .i64 p.ar]] w fun e w' => e = .returned (.bool p.ok) ∧ Below w.heap.size w w' := by
 go_enter func43, ntmps43
 go_wp2_with (first | (go_at_call 52; refine (ZA p _).mono ?_; rintro e w1 ⟨rfl, hb1⟩; obtain ⟨hc1, _⟩ := ZnZ hb1) | (go_at_call 79; refine (X5 _ _).mono ?_; rintro e w' ⟨rfl, rfl⟩) | (go_at_call 51; refine (Z1 _ _ _ _).mono ?_; rintro e w' ⟨rfl, rfl⟩))
 all_goals
  go_ret
  refine ⟨Zs ?_, ((Below.refl _ _).alloc (Nat.le_refl _) _).trans (hb1.mono (by simp))⟩;unfold PtrD.ok;simp [*]
theorem Qn (p : PtrD) (w : World) :
  Calls prog 41 #[.agg #[.int .i64 p.aA, .int .i64 p.al, .int .i64 p.aw, .int .i64 p.aC, .int .i64 p.ar]] w fun e w' => e = .returned (.bool p.ok) ∧ Below w.heap.size w w' := by
 go_enter func41, ntmps41
 go_wp2_with (first | (go_at_call 15; refine (X6 p _).mono ?_; rintro e w1 ⟨rfl, hb1⟩; obtain ⟨hc1, _⟩ := ZnZ hb1) | (go_at_call 78; refine (ZjY _ _).mono ?_; rintro e w' ⟨rfl, rfl⟩) | (go_at_call 47; refine (YK _ _ _ _).mono ?_; rintro e w' ⟨rfl, rfl⟩))
 all_goals
  go_ret
  refine ⟨Zs ?_, ((Below.refl _ _).alloc (Nat.le_refl _) _).trans (hb1.mono (by simp))⟩;unfold PtrD.ok;simp [*]
theorem Tryz.infoIntS : (Tryz.prog.info? 3).map (fun i => (i.zero, i.size, i.bytes)) = some (some (.int .i64 0), 1, 8) := by kernel_rfl
theorem Tryz.infoStringS : (Tryz.prog.info? 9).map (fun i => (i.zero, i.size, i.bytes)) = some (some (.string ByteArray.empty), 1, 16) := by kernel_rfl
structure Zo where
  ac : List Int
  ai : List Int
def Zo.Reads (w : World) (v : Value) (x : Zo) : Prop := ∃ (a0 : Option Addr) (c0 : Nat) (a1 : Option Addr) (c1 : Nat), v = .agg #[.slice a0 x.ac.length c0, .slice a1 x.ai.length c1] ∧ Rd Zv 1 w a0 x.ac.length x.ac ∧ Rd Zv 1 w a1 x.ai.length x.ai
structure Zo.Fit (x : Zo) : Prop where
  f0 : x.ac.length ≤ 1048576
  f1 : x.ai.length ≤ 1048576
def XP (i : Nat) (r l : Int) : Bool := inB l 0 900 && (inB r 0 l && ((r != 0 || l == 0) && (inB i 8 63 || decide (r ≤ 0))))
def Qm (s : Zo) (k : Nat) : Bool := (List.range k).all fun i => XP i (s.ac.getD i 0) (s.ai.getD i 0)
theorem ZcP (s : Zo) (k : Nat) : Qm s (k + 1) = (Qm s k && XP k (s.ac.getD k 0) (s.ai.getD k 0)) := by
 simp [Qm, List.range_succ]
theorem Zfg {s : Zo} {k m : Nat} (h : Qm s m = true) (hk : k < m) : XP k (s.ac.getD k 0) (s.ai.getD k 0) = true := by
 simp only [Qm, List.all_eq_true] at h;exact h k (List.mem_range.2 hk)
theorem ZdB {s : Zo} {k m : Nat} (hk : k < m) (h : XP k (s.ac.getD k 0) (s.ai.getD k 0) = false) : Qm s m = false := by
 cases hm : Qm s m with
 | false => rfl
 | true => rw [Zfg hm hk] at h; cases h
def Zo.ok (s : Zo) : Bool := s.ac.length == 64 && s.ai.length == 64 && Qm s 64
theorem X7 {α : Type} {xs : List α} {k : Nat} {x d : α} (h : xs[k]? = some x) : xs.getD k d = x := by simp [List.getD, h]
theorem Vz (v : Value) (s : Zo) (w : World) (hr : Zo.Reads w v s) (hf : s.Fit) :
  Calls prog 50 #[v] w fun e w' => e = .returned (.bool s.ok) ∧ Below w.heap.size w w' := by
 obtain ⟨a0, c0, a1, c1, rfl, r0, r1⟩ := hr;have hf0 := hf.f0;have hf1 := hf.f1;have hb0 : Below w.heap.size w (w.alloc (.cells #[.slice a0 s.ac.length c0, .slice a1 s.ai.length c1] 26)) := (Below.refl _ _).alloc (Nat.le_refl _) _;have hA0 := YR w (.cells #[.slice a0 s.ac.length c0, .slice a1 s.ai.length c1] 26) _ rfl
 by_cases h0 : s.ac.length = 64
 rotate_left
 ·have H : Hid (s.ok = false) := by show _ = _; simp [Zo.ok, h0]
  go_enter func50, ntmps50
  go_wp2
  go_ret
  exact ⟨Zs H.out.symm, hb0⟩
 have H0 := Lib.hid h0;have hl0 := h0;rw [h0] at r0 hb0 hA0 ⊢;clear h0
 by_cases h1 : s.ai.length = 64
 rotate_left
 ·have H : Hid (s.ok = false) := by show _ = _; simp [Zo.ok, h1]
  go_enter func50, ntmps50
  go_wp2
  go_ret
  exact ⟨Zs H.out.symm, hb0⟩
 have H : Hid (s.ok = Qm s 64) := by show _ = _; simp [Zo.ok, hl0, h1]
 rw [h1] at r1 hb0 hA0 ⊢;have H1 := Lib.hid h1;clear h1 hl0 hf0 hf1 hf
 go_enter func50, ntmps50
 go_wp2
 go_loopw [3] (fun i wr => ∃ k : Nat, k ≤ 64 ∧ i = .int .i64 k ∧ Qm s k = true ∧ Below w.heap.size w wr ∧ wr.heap[w.heap.size]? = some (.cells #[.slice a0 64 c0, .slice a1 64 c1] 26 (0, 0))) (fun i _ => 64 - (intOf i).toNat)
 case atStart => exact ⟨0, by omega, rfl, rfl, hb0, hA0⟩
 case round =>
  obtain ⟨k, hk, rfl, hok, hb, hA⟩ := hrel;have HOK := Lib.hid hok;clear hok
  by_cases hlt : k < 64
  ·obtain ⟨b, off, r, hx0, rfl, hbl, hrg⟩ := r0.at_ k (by rw [H0.out]; exact hlt)
   have d0 := (ZK hrg hb hbl) 0 _ rfl;simp only [Nat.mul_one, Nat.add_zero] at d0;obtain ⟨b2, off2, l, hx1, rfl, hbl2, hrg2⟩ := r1.at_ k (by rw [H1.out]; exact hlt);have d1 := (ZK hrg2 hb hbl2) 0 _ rfl;simp only [Nat.mul_one, Nat.add_zero] at d1;have hg0 : s.ac.getD k 0 = r := X7 hx0;have hg1 : s.ai.getD k 0 = l := X7 hx1;have p0 : wr.cell? ⟨w.heap.size, 0, none⟩ = some (.slice (some ⟨b, off, none⟩) 64 c0) := Zh hA 0;have p1 : wr.cell? ⟨w.heap.size, 1, none⟩ = some (.slice (some ⟨b2, off2, none⟩) 64 c1) := Zh hA 1;have hlast : Hid (XP k r l = false → s.ok = false) := fun h => by rw [H.out]; exact ZdB hlt (by rw [hg0, hg1]; exact h)
   have hnext : Hid (XP k r l = true → Qm s (k + 1) = true) := fun h => by rw [ZcP, HOK.out, hg0, hg1, h]; rfl
   have HA := Lib.hid hA;clear hx0 hx1 hg0 hg1 hrg hrg2 hA hA0 hb0
   by_cases g1 : inB l 0 900 = true
   rotate_left
   ·have g1' : inB l 0 900 = false := by simpa using g1
    have HR : Hid (XP k r l = false) := by show _ = _; simp [XP, g1']
    clear g1
    go_wp2_with fail
    go_quiet ((first | (go_at_call 51; exact Calls.quiet_of_same ((Z1 _ _ _ _).mono fun _ _ ⟨h1, h2⟩ => ⟨h1, h2.symm⟩)) | (go_at_call 79; exact Calls.quiet_of_same ((X5 _ _).mono fun _ _ ⟨h1, h2⟩ => ⟨h1, h2.symm⟩))))
    go_wp2
    go_ret
    exact ⟨Zs (hlast.out HR.out).symm, hb.trans (ZU _ _ _)⟩
   have hl := Zw g1
   by_cases g2 : inB r 0 l = true
   rotate_left
   ·have g2' : inB r 0 l = false := by simpa using g2
    have HR : Hid (XP k r l = false) := by show _ = _; simp [XP, g2']
    clear g2
    go_wp2_with fail
    go_quiet ((first | (go_at_call 51; exact Calls.quiet_of_same ((Z1 _ _ _ _).mono fun _ _ ⟨h1, h2⟩ => ⟨h1, h2.symm⟩)) | (go_at_call 79; exact Calls.quiet_of_same ((X5 _ _).mono fun _ _ ⟨h1, h2⟩ => ⟨h1, h2.symm⟩))))
    go_wp2
    go_ret
    exact ⟨Zs (hlast.out HR.out).symm, hb.trans (ZU _ _ _)⟩
   have hr2 := Zw g2
   by_cases g3 : r = 0
   ·subst g3
    by_cases g4 : l = 0
    ·subst g4
     cases g5 : inB (k : Int) 8 63
     ·have HR : Hid (XP k 0 0 = true) := by show _ = _; simp [XP, g1, g2]
      go_wp2_with fail
      go_quiet ((first | (go_at_call 51; exact Calls.quiet_of_same ((Z1 _ _ _ _).mono fun _ _ ⟨h1, h2⟩ => ⟨h1, h2.symm⟩)) | (go_at_call 79; exact Calls.quiet_of_same ((X5 _ _).mono fun _ _ ⟨h1, h2⟩ => ⟨h1, h2.symm⟩))))
      go_wp2
      go_roundw
      case rel => exact ⟨k + 1, by omega, by go_num, hnext.out HR.out, hb.trans (ZU _ _ _), HA.out⟩
      case measure => simp [intOf]; omega
     ·have HR : Hid (XP k 0 0 = true) := by show _ = _; simp [XP, g1, g2]
      go_wp2_with fail
      go_quiet ((first | (go_at_call 51; exact Calls.quiet_of_same ((Z1 _ _ _ _).mono fun _ _ ⟨h1, h2⟩ => ⟨h1, h2.symm⟩)) | (go_at_call 79; exact Calls.quiet_of_same ((X5 _ _).mono fun _ _ ⟨h1, h2⟩ => ⟨h1, h2.symm⟩))))
      go_wp2
      go_roundw
      case rel => exact ⟨k + 1, by omega, by go_num, hnext.out HR.out, hb.trans (ZU _ _ _), HA.out⟩
      case measure => simp [intOf]; omega
    ·have g4' : ((l : Int) != 0) = true := by simpa using g4
     have HR : Hid (XP k 0 l = false) := by show _ = _; simp [XP, g4]
     clear g4
     go_wp2_with fail
     go_quiet ((first | (go_at_call 51; exact Calls.quiet_of_same ((Z1 _ _ _ _).mono fun _ _ ⟨h1, h2⟩ => ⟨h1, h2.symm⟩)) | (go_at_call 79; exact Calls.quiet_of_same ((X5 _ _).mono fun _ _ ⟨h1, h2⟩ => ⟨h1, h2.symm⟩))))
     go_wp2
     go_ret
     exact ⟨Zs (hlast.out HR.out).symm, hb.trans (ZU _ _ _)⟩
   ·have g3' : ((r : Int) == 0) = false := by simpa using g3
    have g6 : 0 < r := by omega
    cases g5 : inB (k : Int) 8 63
    ·have HR : Hid (XP k r l = false) := by show _ = _; simp [XP, g5]; omega
     clear g3
     go_wp2_with fail
     go_quiet ((first | (go_at_call 51; exact Calls.quiet_of_same ((Z1 _ _ _ _).mono fun _ _ ⟨h1, h2⟩ => ⟨h1, h2.symm⟩)) | (go_at_call 79; exact Calls.quiet_of_same ((X5 _ _).mono fun _ _ ⟨h1, h2⟩ => ⟨h1, h2.symm⟩))))
     go_wp2
     go_ret
     exact ⟨Zs (hlast.out HR.out).symm, hb.trans (ZU _ _ _)⟩
    ·have HR : Hid (XP k r l = true) := by show _ = _; simp [XP, g1, g2, g5, g3]
     clear g3
     go_wp2_with fail
     go_quiet ((first | (go_at_call 51; exact Calls.quiet_of_same ((Z1 _ _ _ _).mono fun _ _ ⟨h1, h2⟩ => ⟨h1, h2.symm⟩)) | (go_at_call 79; exact Calls.quiet_of_same ((X5 _ _).mono fun _ _ ⟨h1, h2⟩ => ⟨h1, h2.symm⟩))))
     go_wp2
     go_roundw
     case rel => exact ⟨k + 1, by omega, by go_num, hnext.out HR.out, hb.trans (ZU _ _ _), HA.out⟩
     case measure => simp [intOf]; omega
  ·have hk' : k = 64 := by omega
   subst hk'
   go_wp2
   go_ret
   exact ⟨Zs (by rw [H.out, HOK.out]), hb⟩
def XL (i : Nat) (r l : Int) : Bool := inB r 0 900 && (inB l r 900 && ((r != 0 || l == 0) && (decide (r ≤ 0) || !decide ((i : Int) < 8))))
theorem Zai {i : Nat} {r l : Int} (hi : i < 64 := by omega) : XP i r l = XL i r l := by
 unfold XP XL inB;rw [Bool.eq_iff_iff]
 simp
 omega
theorem Zdh (v : Value) (s : Zo) (w : World) (hr : Zo.Reads w v s) (hf : s.Fit) :
  Calls prog 46 #[v] w fun e w' => e = .returned (.bool s.ok) ∧ Below w.heap.size w w' := by
 obtain ⟨a0, c0, a1, c1, rfl, r0, r1⟩ := hr;have hf0 := hf.f0;have hf1 := hf.f1;have hb0 : Below w.heap.size w (w.alloc (.cells #[.slice a0 s.ac.length c0, .slice a1 s.ai.length c1] 26)) := (Below.refl _ _).alloc (Nat.le_refl _) _;have hA0 := YR w (.cells #[.slice a0 s.ac.length c0, .slice a1 s.ai.length c1] 26) _ rfl
 by_cases h0 : s.ac.length = 64
 rotate_left
 ·have H : Hid (s.ok = false) := by show _ = _; simp [Zo.ok, h0]
  go_enter func46, ntmps46
  go_wp2
  go_ret
  exact ⟨Zs H.out.symm, hb0⟩
 have H0 := Lib.hid h0;have hl0 := h0;rw [h0] at r0 hb0 hA0 ⊢;clear h0
 by_cases h1 : s.ai.length = 64
 rotate_left
 ·have H : Hid (s.ok = false) := by show _ = _; simp [Zo.ok, h1]
  go_enter func46, ntmps46
  go_wp2
  go_ret
  exact ⟨Zs H.out.symm, hb0⟩
 have H : Hid (s.ok = Qm s 64) := by show _ = _; simp [Zo.ok, hl0, h1]
 rw [h1] at r1 hb0 hA0 ⊢;have H1 := Lib.hid h1;clear h1 hl0 hf0 hf1 hf
 go_enter func46, ntmps46
 go_wp2
 go_loopw [19] (fun i wr => ∃ k : Nat, k ≤ 64 ∧ i = .int .i64 k ∧ Qm s k = true ∧ Below w.heap.size w wr ∧ wr.heap[w.heap.size]? = some (.cells #[.slice a0 64 c0, .slice a1 64 c1] 26 (0, 0))) (fun i _ => 64 - (intOf i).toNat)
 case atStart => exact ⟨0, by omega, rfl, rfl, hb0, hA0⟩
 case round =>
  obtain ⟨k, hk, rfl, hok, hb, hA⟩ := hrel;have HOK := Lib.hid hok;clear hok
  by_cases hlt : k < 64
  ·obtain ⟨b, off, r, hx0, rfl, hbl, hrg⟩ := r0.at_ k (by rw [H0.out]; exact hlt)
   have d0 := (ZK hrg hb hbl) 0 _ rfl;simp only [Nat.mul_one, Nat.add_zero] at d0;obtain ⟨b2, off2, l, hx1, rfl, hbl2, hrg2⟩ := r1.at_ k (by rw [H1.out]; exact hlt);have d1 := (ZK hrg2 hb hbl2) 0 _ rfl;simp only [Nat.mul_one, Nat.add_zero] at d1;have hg0 : s.ac.getD k 0 = r := X7 hx0;have hg1 : s.ai.getD k 0 = l := X7 hx1;have p0 : wr.cell? ⟨w.heap.size, 0, none⟩ = some (.slice (some ⟨b, off, none⟩) 64 c0) := Zh hA 0;have p1 : wr.cell? ⟨w.heap.size, 1, none⟩ = some (.slice (some ⟨b2, off2, none⟩) 64 c1) := Zh hA 1;have hlast : Hid (XP k r l = false → s.ok = false) := fun h => by rw [H.out]; exact ZdB hlt (by rw [hg0, hg1]; exact h)
   have hnext : Hid (XP k r l = true → Qm s (k + 1) = true) := fun h => by rw [ZcP, HOK.out, hg0, hg1, h]; rfl
   have HA := Lib.hid hA;clear hx0 hx1 hg0 hg1 hrg hrg2 hA hA0 hb0;have hlast : Hid (XL k r l = false → s.ok = false) := fun h => hlast.out (by rw [Zai]; exact h)
   have hnext : Hid (XL k r l = true → Qm s (k + 1) = true) := fun h => hnext.out (by rw [Zai]; exact h)
   by_cases g1 : inB r 0 900 = true
   rotate_left
   ·have g1' : inB r 0 900 = false := by simpa using g1
    have HR : Hid (XL k r l = false) := by show _ = _; simp [XL, g1']
    clear g1
    go_wp2_with (go_at_call 47; refine (YK _ _ _ _).mono ?_; rintro e w' ⟨rfl, rfl⟩)
    go_ret
    exact ⟨Zs (hlast.out HR.out).symm, hb⟩
   have hr2 := Zw g1
   by_cases g2 : inB l r 900 = true
   rotate_left
   ·have g2' : inB l r 900 = false := by simpa using g2
    have HR : Hid (XL k r l = false) := by show _ = _; simp [XL, g2']
    clear g2
    go_wp2_with (go_at_call 47; refine (YK _ _ _ _).mono ?_; rintro e w' ⟨rfl, rfl⟩)
    go_ret
    exact ⟨Zs (hlast.out HR.out).symm, hb⟩
   have hl := Zw g2
   by_cases g3 : r = 0
   ·subst g3
    by_cases g4 : l = 0
    ·subst g4
     have HR : Hid (XL k 0 0 = true) := by show _ = _; simp [XL, g1]
     go_wp2_with (go_at_call 47; refine (YK _ _ _ _).mono ?_; rintro e w' ⟨rfl, rfl⟩)
     go_roundw
     case rel => exact ⟨k + 1, by omega, by go_num, hnext.out HR.out, hb, HA.out⟩
     case measure => simp [intOf]; omega
    ·have g4' : ((l : Int) != 0) = true := by simpa using g4
     have HR : Hid (XL k 0 l = false) := by show _ = _; simp [XL, g4]
     clear g4
     go_wp2_with (go_at_call 47; refine (YK _ _ _ _).mono ?_; rintro e w' ⟨rfl, rfl⟩)
     go_ret
     exact ⟨Zs (hlast.out HR.out).symm, hb⟩
   ·have g3' : ((r : Int) == 0) = false := by simpa using g3
    have g6 : 0 < r := by omega
    by_cases g5 : (k : Int) < 8
    ·have HR : Hid (XL k r l = false) := by show _ = _; simp [XL, g5, g6]
     clear g3
     go_wp2_with (go_at_call 47; refine (YK _ _ _ _).mono ?_; rintro e w' ⟨rfl, rfl⟩)
     go_ret
     exact ⟨Zs (hlast.out HR.out).symm, hb⟩
    ·have HR : Hid (XL k r l = true) := by show _ = _; simp [XL, g1, g2, g5, g3]
     clear g3
     go_wp2_with (go_at_call 47; refine (YK _ _ _ _).mono ?_; rintro e w' ⟨rfl, rfl⟩)
     go_roundw
     case rel => exact ⟨k + 1, by omega, by go_num, hnext.out HR.out, hb, HA.out⟩
     case measure => simp [intOf]; omega
  ·have hk' : k = 64 := by omega
   subst hk'
   go_wp2
   go_ret
   exact ⟨Zs (by rw [H.out, HOK.out]), hb⟩
structure Za where
  af : List ByteArray
  aa : Zo
  ak : Int
  ag : List PtrD
  av : Int
  ah : List PtrD
  ax : Bool
abbrev sL (a0 : Option Addr) (c0 : Nat) (a1 : Option Addr) (c1 : Nat) (a2 : Option Addr) (c2 : Nat) (a4 : Option Addr) (c4 : Nat) (a6 : Option Addr) (c6 : Nat) (st : Za) : List Value := [.slice a0 st.af.length c0, .slice a1 st.aa.ac.length c1, .slice a2 st.aa.ai.length c2, .int .i64 st.ak, .slice a4 st.ag.length c4, .int .i64 st.av, .slice a6 st.ah.length c6, .bool st.ax]
abbrev sV (a0 : Option Addr) (c0 : Nat) (a1 : Option Addr) (c1 : Nat) (a2 : Option Addr) (c2 : Nat) (a4 : Option Addr) (c4 : Nat) (a6 : Option Addr) (c6 : Nat) (st : Za) : Value := .agg #[.slice a0 st.af.length c0, .slice a1 st.aa.ac.length c1, .slice a2 st.aa.ai.length c2, .int .i64 st.ak, .slice a4 st.ag.length c4, .int .i64 st.av, .slice a6 st.ah.length c6, .bool st.ax]
def Za.Reads (w : World) (v : Value) (x : Za) : Prop := ∃ (a0 : Option Addr) (c0 : Nat) (a1 : Option Addr) (c1 : Nat) (a2 : Option Addr) (c2 : Nat) (a4 : Option Addr) (c4 : Nat) (a6 : Option Addr) (c6 : Nat), v = .agg #[.slice a0 x.af.length c0, .slice a1 x.aa.ac.length c1, .slice a2 x.aa.ai.length c2, .int .i64 x.ak, .slice a4 x.ag.length c4, .int .i64 x.av, .slice a6 x.ah.length c6, .bool x.ax] ∧ Rd Zy 1 w a0 x.af.length x.af ∧ Rd Zv 1 w a1 x.aa.ac.length x.aa.ac ∧ Rd Zv 1 w a2 x.aa.ai.length x.aa.ai ∧ Rd PtrD.cells 5 w a4 x.ag.length x.ag ∧ Rd PtrD.cells 5 w a6 x.ah.length x.ah
theorem Za.Reads.below {w w' : World} {v : Value} {x : Za} (h : Za.Reads w v x) (hb : Below w.heap.size w w') : Za.Reads w' v x := by
 obtain ⟨a0, c0, a1, c1, a2, c2, a4, c4, a6, c6, rfl, r0, r1, r2, r4, r6⟩ := h;exact ⟨a0, c0, a1, c1, a2, c2, a4, c4, a6, c6, rfl, r0.below hb, r1.below hb, r2.below hb, r4.below hb, r6.below hb⟩
structure Za.Fit (x : Za) : Prop where
  f0 : x.af.length ≤ 1048576
  f1 : x.aa.ac.length ≤ 1048576
  f2 : x.aa.ai.length ≤ 1048576
  f4 : x.ag.length ≤ 1048576
  f6 : x.ah.length ≤ 1048576
def cnt (ps : List PtrD) (i : Nat) : Nat := (ps.filter fun p => p.aA == (i : Int)).length
theorem VL (ps : List PtrD) (p : PtrD) (i : Nat) : cnt (ps ++ [p]) i = cnt ps i + if p.aA = (i : Int) then 1 else 0 := by
 unfold cnt;rw [List.filter_append, List.length_append]
 by_cases h : p.aA = (i : Int) <;> simp [h]
theorem Zgj (ps : List PtrD) (i : Nat) : cnt ps i ≤ ps.length := List.length_filter_le _ _
theorem Zj (a b : List PtrD) (i : Nat) : cnt (a ++ b) i = cnt a i + cnt b i := by simp [cnt, List.filter_append]
theorem Zk6 (ps : List PtrD) (k i : Nat) : cnt (ps.take k) i ≤ cnt ps i := by
 have h := Zj (ps.take k) (ps.drop k) i;rw [List.take_append_drop] at h; omega
def YW (ps : List PtrD) : List Value := (List.range 64).map fun i => .int .i64 (cnt ps i : Nat)
theorem Jt (ps : List PtrD) : (YW ps).length = 64 := by simp [YW]
theorem Xy (ps : List PtrD) (i : Nat) (h : i < 64) : (YW ps)[i]? = some (.int .i64 (cnt ps i : Nat)) := by simp [YW, h]
theorem UE (ps : List PtrD) (p : PtrD) (a : Nat) (ha : p.aA = (a : Int)) (h : a < 64) : (YW ps).set a (.int .i64 ((cnt ps a : Nat) + 1)) = YW (ps ++ [p]) := by
 apply List.ext_getElem?
 intro i
 by_cases hi : i < 64
 ·rw [Xy _ _ hi, VL, List.getElem?_set]
  by_cases hai : a = i
  ·subst hai
   simp [Jt, h, ha]
  ·rw [if_neg hai, Xy _ _ hi, if_neg (by rw [ha]; omega)]
   simp
 ·rw [List.getElem?_eq_none (by rw [List.length_set, Jt]; omega), List.getElem?_eq_none (by rw [Jt]; omega)]
def Yb (p : PtrD) (most : Int) : Bool := p.ok && (!p.hole && decide (p.al ≤ most))
def Y7 (st : Za) (i : Nat) : Bool := decide ((st.af.getD i ByteArray.empty).size ≤ 128) && (((st.af.getD i ByteArray.empty).size == 0) == (st.aa.ac.getD i 0 == 0) && decide (st.aa.ai.getD i 0 ≤ st.ak))
def Xz (st : Za) (k : Nat) : Bool := (List.range k).all fun i => Y7 st i
theorem ZcQ (st : Za) (k : Nat) : Xz st (k + 1) = (Xz st k && Y7 st k) := by simp [Xz, List.range_succ]
theorem UK {st : Za} {k m : Nat} (h : Xz st m = true) (hk : k < m) : Y7 st k = true := by
 simp only [Xz, List.all_eq_true] at h;exact h k (List.mem_range.2 hk)
theorem ZdC {st : Za} {k m : Nat} (hk : k < m) (h : Y7 st k = false) : Xz st m = false := by
 cases hm : Xz st m with
 | false => rfl
 | true => rw [UK hm hk] at h; cases h
def XM (refs : List Int) (ps : List PtrD) : Bool := (List.range 64).all fun i => decide ((cnt ps i : Int) ≤ refs.getD i 0)
def Za.ok (st : Za) : Bool :=
 st.af.length == 64 && (st.aa.ok && (inB st.ak 1 900 && (inB st.av 0 (st.ak - 1) && (Xz st 64 &&
  (st.ag.all (fun p => Yb p (st.ak - 1)) && (st.ah.all (fun p => Yb p st.av) && XM st.aa.ac (st.ag ++ st.ah)))))))
def VA (st : Za) (j : Nat) : Option PtrD := (st.ag ++ st.ah)[j]?
def JK (st : Za) (j : Nat) : Int := if j < st.ag.length then st.ak - 1 else st.av
structure VB (st : Za) (j : Nat) : Prop where
  each : ∀ i p, i < j → VA st i = some p → Yb p (JK st i) = true
  few : ∀ i, i < 64 → 0 < cnt ((st.ag ++ st.ah).take j) i → (cnt ((st.ag ++ st.ah).take j) i : Int) ≤ st.aa.ac.getD i 0
theorem VB.zero (st : Za) : VB st 0 := ⟨fun i p h => absurd h (Nat.not_lt_zero _), fun i hi h => by simp [cnt] at h⟩
theorem UL {p : PtrD} {m : Int} (h : Yb p m = true) : 8 ≤ p.aA ∧ p.aA ≤ 63 ∧ p.al ≤ m ∧ 1 ≤ p.al ∧ p.al ≤ 900 := by
 simp only [Yb, PtrD.ok, Bool.and_eq_true, Bool.or_eq_true, Bool.not_eq_true', decide_eq_true_eq] at h;obtain ⟨h1, h2, h3⟩ := h;rw [h2] at h1;rcases h1 with h1 | h1
 ·cases h1
 ·obtain ⟨⟨⟨⟨a, b⟩, _⟩, _⟩, _⟩ := h1
  have := Zw a;have := Zw b
  omega
theorem VB.succ {st : Za} {j : Nat} (h : VB st j) {p : PtrD} (hp : VA st j = some p) (hin : Yb p (JK st j) = true) (a : Nat) (ha : p.aA = (a : Int)) (hle : ((cnt ((st.ag ++ st.ah).take j) a + 1 : Nat) : Int) ≤ st.aa.ac.getD a 0) : VB st (j + 1) := by
 obtain ⟨hj, hpe⟩ := List.getElem?_eq_some_iff.1 hp;have hs : (st.ag ++ st.ah).take (j + 1) = (st.ag ++ st.ah).take j ++ [p] := by rw [List.take_succ_eq_append_getElem hj, hpe]
 refine ⟨fun i q hi hq => ?_, fun i hi hc => ?_⟩
 ·by_cases hij : i = j
  ·subst hij
   obtain rfl := Option.some.inj (hp.symm.trans hq);exact hin
  ·exact h.each i q (by omega) hq
 ·rw [hs, VL] at hc ⊢
  by_cases hai : p.aA = (i : Int)
  ·have : a = i := by omega
   subst this;rw [if_pos hai];exact hle
  ·rw [if_neg hai] at hc ⊢
   exact h.few i hi hc
theorem VB.all {st : Za} (h : VB st (st.ag ++ st.ah).length) (hr : ∀ i, i < 64 → 0 ≤ st.aa.ac.getD i 0) :
  (st.ag.all (fun p => Yb p (st.ak - 1)) && (st.ah.all (fun p => Yb p st.av) && XM st.aa.ac (st.ag ++ st.ah))) = true := by
 rw [Bool.and_eq_true, Bool.and_eq_true];refine ⟨List.all_eq_true.2 fun p hp => ?_, List.all_eq_true.2 fun p hp => ?_, List.all_eq_true.2 fun i hi => ?_⟩
 ·obtain ⟨i, hi, hpe⟩ := List.mem_iff_getElem.1 hp
  have := h.each i p (by rw [List.length_append]; omega) (by unfold VA; rw [List.getElem?_append_left hi, List.getElem?_eq_getElem hi, hpe])
  rwa [JK, if_pos hi] at this
 ·obtain ⟨i, hi, hpe⟩ := List.mem_iff_getElem.1 hp
  have := h.each (st.ag.length + i) p (by rw [List.length_append]; omega) (by unfold VA; rw [List.getElem?_append_right (by omega), Nat.add_sub_cancel_left, List.getElem?_eq_getElem hi, hpe])
  rwa [JK, if_neg (by omega)] at this
 ·have hi' := List.mem_range.1 hi
  simp only [decide_eq_true_eq]
  by_cases hc : 0 < cnt (st.ag ++ st.ah) i
  ·have := h.few i hi' (by rw [List.take_of_length_le (Nat.le_refl _)]; exact hc)
   rwa [List.take_of_length_le (Nat.le_refl _)] at this
  ·have := hr i hi'
   omega
theorem Zfh {st : Za} {j : Nat} {p : PtrD} (hp : VA st j = some p) (hin : Yb p (JK st j) = false) : st.ok = false := by
 obtain ⟨hj, hpe⟩ := List.getElem?_eq_some_iff.1 hp;unfold Za.ok
 by_cases hg : j < st.ag.length
 ·have hm : p ∈ st.ag := by rw [← hpe, List.getElem_append_left hg]; exact List.getElem_mem _
  have : st.ag.all (fun p => Yb p (st.ak - 1)) = false := by
   rw [List.all_eq_false];exact ⟨p, hm, by rw [JK, if_pos hg] at hin; simp [hin]⟩
  simp [this]
 ·have hlt : j - st.ag.length < st.ah.length := by rw [List.length_append] at hj; omega
  have hm : p ∈ st.ah := by rw [← hpe, List.getElem_append_right (by omega)]; exact List.getElem_mem _
  have : st.ah.all (fun p => Yb p st.av) = false := by
   rw [List.all_eq_false];exact ⟨p, hm, by rw [JK, if_neg hg] at hin; simp [hin]⟩
  simp [this]
theorem ZdD {st : Za} {j : Nat} {p : PtrD} (hp : VA st j = some p) (a : Nat) (ha : p.aA = (a : Int)) (h64 : a < 64) (hlt : st.aa.ac.getD a 0 < ((cnt ((st.ag ++ st.ah).take j) a + 1 : Nat) : Int)) : st.ok = false := by
 obtain ⟨hj, hpe⟩ := List.getElem?_eq_some_iff.1 hp;have hs : (st.ag ++ st.ah).take (j + 1) = (st.ag ++ st.ah).take j ++ [p] := by rw [List.take_succ_eq_append_getElem hj, hpe]
 have h1 := Zk6 (st.ag ++ st.ah) (j + 1) a;rw [hs, VL, if_pos ha] at h1;have : XM st.aa.ac (st.ag ++ st.ah) = false := by
  unfold XM;rw [List.all_eq_false];exact ⟨a, List.mem_range.2 h64, by simp only [decide_eq_true_eq]; omega⟩
 unfold Za.ok;simp [this]
structure Ze6 (st : Za) : Prop where
  rows : st.af.length = 64
  space : st.aa.ok = true
  txg : 1 ≤ st.ak ∧ st.ak ≤ 900
  keep : 0 ≤ st.av ∧ st.av ≤ st.ak - 1
  each : Xz st 64 = true
  gone : st.ag.all (fun p => Yb p (st.ak - 1)) = true
  dead : st.ah.all (fun p => Yb p st.av) = true
  owed : XM st.aa.ac (st.ag ++ st.ah) = true
theorem Za.ok_spec {st : Za} (h : st.ok = true) : Ze6 st := by
 simp only [Za.ok, Bool.and_eq_true, beq_iff_eq] at h;obtain ⟨h1, h2, h3, h4, h5, h6, h7, h8⟩ := h;exact ⟨h1, h2, Zw h3, Zw h4, h5, h6, h7, h8⟩
structure Zii (s : Zo) : Prop where
  refs : s.ac.length = 64
  last : s.ai.length = 64
  each : ∀ i, i < 64 → 0 ≤ s.ac.getD i 0 ∧ s.ac.getD i 0 ≤ s.ai.getD i 0 ∧ s.ai.getD i 0 ≤ 900 ∧ (s.ac.getD i 0 = 0 → s.ai.getD i 0 = 0) ∧ (i < 8 → s.ac.getD i 0 = 0)
theorem Zo.ok_spec {s : Zo} (h : s.ok = true) : Zii s := by
 simp only [Zo.ok, Bool.and_eq_true, beq_iff_eq] at h;obtain ⟨⟨h1, h2⟩, h3⟩ := h;refine ⟨h1, h2, fun i hi => ?_⟩;have h4 := Zfg h3 hi;rw [Zai hi] at h4;simp only [XL, Bool.and_eq_true, Bool.or_eq_true, decide_eq_true_eq, bne_iff_ne, beq_iff_eq, Bool.not_eq_true', decide_eq_false_iff_not] at h4;obtain ⟨h5, h6, h7, h8⟩ := h4;have := Zw h5;have := Zw h6;refine ⟨by omega, by omega, by omega, fun h0 => ?_, fun h0 => ?_⟩
 ·rcases h7 with h7 | h7
  ·exact absurd h0 h7
  ·exact h7
 ·rcases h8 with h8 | h8
  ·omega
  ·omega
theorem Zfi (ps : List PtrD) : (madeCells (Value.int .i64 0).cells (64 * 1)).toList = YW (ps.take 0) := by
 show (madeCells #[Value.int .i64 0] 64).toList = _;rw [toList_madeCells_one]
 apply List.ext_getElem?
 intro i
 by_cases hi : i < 64
 ·rw [Xy _ _ hi, List.getElem?_replicate, if_pos hi]; simp [cnt]
 ·rw [List.getElem?_eq_none (by rw [List.length_replicate]; omega), List.getElem?_eq_none (by rw [Jt]; omega)]
end Go.Proofs.YtfhdmfcfcgbgeaaGreat
