/- A part of the proof in YtfhdmfcfcgbgeaaGreatSaX30. -/
import Derived.BigQuiet
import Derived.Deep.QuietTactic
import Derived.Deep.RegionWith
import Derived.StillTailTactics
import Derived.Test.YtfhdmfcfcgbgeaaGreatRows
import Derived.Test.YtfhdmfcfcgbgeaaGreatSaX1
namespace Go.Proofs.YtfhdmfcfcgbgeaaGreat
open Go.Proofs.Tryz
set_option linter.unusedVariables false
set_option linter.unusedSimpArgs false
set_option maxHeartbeats 1000000
set_option maxRecDepth 100000
open Go.RowKit
structure PtrD where
  aA : Int
  al : Int
  av : Int
  aC : Int
  ar : Int
abbrev pL (p : PtrD) : List Value := [.int .i64 p.aA, .int .i64 p.al, .int .i64 p.av, .int .i64 p.aC, .int .i64 p.ar]
abbrev pV (p : PtrD) : Value := .agg #[.int .i64 p.aA, .int .i64 p.al, .int .i64 p.av, .int .i64 p.aC, .int .i64 p.ar]
def PtrD.cells (x : PtrD) : List Value := [.int .i64 x.aA, .int .i64 x.al, .int .i64 x.av, .int .i64 x.aC, .int .i64 x.ar]
theorem PtrD.cells_len (x : PtrD) : x.cells.length = 5 := rfl
theorem PtrD.at_ {w : World} {b o : Nat} {x : PtrD} (h : w.rangeAt b o x.cells) :
  w.cell? ⟨b, o, none⟩ = some (.int .i64 x.aA) ∧ w.cell? ⟨b, o + 1, none⟩ = some (.int .i64 x.al) ∧ w.cell? ⟨b, o + 2, none⟩ = some (.int .i64 x.av) ∧ w.cell? ⟨b, o + 3, none⟩ = some (.int .i64 x.aC) ∧ w.cell? ⟨b, o + 4, none⟩ = some (.int .i64 x.ar) :=
 ⟨h 0 _ rfl, h 1 _ rfl, h 2 _ rfl, h 3 _ rfl, h 4 _ rfl⟩
theorem Tryz.infoPtrS : (Tryz.prog.info? 31).map (fun i => (i.zero, i.size, i.bytes)) = some (some (.agg #[.int .i64 0, .int .i64 0, .int .i64 0, .int .i64 0, .int .i64 0]), 5, 40) := by kernel_rfl
def inB (n lo hi : Int) : Bool := decide (lo ≤ n) && decide (n ≤ hi)
theorem Zw {n lo hi : Int} (h : inB n lo hi = true) : lo ≤ n ∧ n ≤ hi := by simpa [inB] using h
theorem XF {n lo hi : Int} (h : lo ≤ n) (k : n ≤ hi) : inB n lo hi = true := by simp [inB, h, k]
theorem Z0 (a b c : Int) (w : World) :
  Calls prog 51 #[.int .i64 a, .int .i64 b, .int .i64 c] w fun e w' => e = .returned (.bool (inB a b c)) ∧ w = w' := by
 by_cases h1 : b ≤ a
 ·have H : Hid (inB a b c = decide (a ≤ c)) := by show _ = _; simp [inB, h1]
  go_enter func51, ntmps51
  go_wp2
  all_goals (go_ret; exact ⟨Zs H.out.symm, rfl⟩)
 ·have H : Hid (inB a b c = false) := by show _ = _; simp [inB, h1]
  go_enter func51, ntmps51
  go_wp2
  all_goals (go_ret; exact ⟨Zs H.out.symm, rfl⟩)
theorem YI (a b c : Int) (w : World) :
  Calls prog 47 #[.int .i64 a, .int .i64 b, .int .i64 c] w fun e w' => e = .returned (.bool (inB a b c)) ∧ w = w' := by
 by_cases h1 : b ≤ a
 ·have H : Hid (inB a b c = decide (a ≤ c)) := by show _ = _; simp [inB, h1]
  go_enter func47, ntmps47
  go_wp2
  all_goals (go_ret; exact ⟨Zs H.out.symm, rfl⟩)
 ·have H : Hid (inB a b c = false) := by show _ = _; simp [inB, h1]
  go_enter func47, ntmps47
  go_wp2
  all_goals (go_ret; exact ⟨Zs H.out.symm, rfl⟩)
theorem XY (a : Int) (w : World) :
  Calls prog 79 #[.int .i64 a] w fun e w' => e = .returned (.bool (inB a 8 63)) ∧ w = w' := by
 go_enter func79, ntmps79
 go_wp2_with fail
 refine (Z0 _ _ _ _).mono ?_;rintro e w' ⟨rfl, rfl⟩
 go_wp2
 go_ret
 exact ⟨rfl, rfl⟩
theorem ZjY (a : Int) (w : World) :
  Calls prog 78 #[.int .i64 a] w fun e w' => e = .returned (.bool (inB a 8 63)) ∧ w = w' := by
 go_enter func78, ntmps78
 go_wp2_with fail
 refine (YI _ _ _ _).mono ?_;rintro e w' ⟨rfl, rfl⟩
 go_wp2
 go_ret
 exact ⟨rfl, rfl⟩
def PtrD.hole (p : PtrD) : Bool := p.aA == 0 && p.al == 0 && p.av == 0 && p.aC == 0 && p.ar == 0
def PtrD.ok (p : PtrD) : Bool := p.hole || inB p.aA 8 63 && inB p.al 1 900 && inB p.av 1 128 && inB p.aC 0 99460728 && inB p.ar 0 2
theorem ZA (p : PtrD) (w : World) :
  Calls prog 52 #[.agg #[.int .i64 p.aA, .int .i64 p.al, .int .i64 p.av, .int .i64 p.aC, .int .i64 p.ar]] w fun e w' => e = .returned (.bool p.hole) ∧ Below w.heap.size w w' := by
 go_enter func52, ntmps52
 go_wp2
 all_goals
  go_ret
  refine ⟨Zs ?_, (Below.refl _ _).alloc (Nat.le_refl _) _⟩;unfold PtrD.hole;simp [*]
theorem Zbg (p : PtrD) (w : World) :
  Calls prog 15 #[.agg #[.int .i64 p.aA, .int .i64 p.al, .int .i64 p.av, .int .i64 p.aC, .int .i64 p.ar]] w fun e w' => e = .returned (.bool p.hole) ∧ Below w.heap.size w w' := by
 go_enter func15, ntmps15
 go_wp2
 all_goals
  go_ret
  refine ⟨Zs ?_, (Below.refl _ _).alloc (Nat.le_refl _) _⟩;unfold PtrD.hole;simp [*]
theorem ZQ (p : PtrD) (w : World) :
  Calls prog 43 #[.agg #[.int .i64 p.aA, .int .i64 p.al, .int .i64 p.av, .int .i64 p.aC, .int .i64 p.ar]] w fun e w' => e = .returned (.bool p.ok) ∧ Below w.heap.size w w' := by
 go_enter func43, ntmps43
 go_wp2_with (first | (go_at_call 52; refine (ZA p _).mono ?_; rintro e w1 ⟨rfl, hb1⟩; obtain ⟨hc1, _⟩ := ZnZ hb1) | (go_at_call 79; refine (XY _ _).mono ?_; rintro e w' ⟨rfl, rfl⟩) | (go_at_call 51; refine (Z0 _ _ _ _).mono ?_; rintro e w' ⟨rfl, rfl⟩))
 all_goals
  go_ret
  refine ⟨Zs ?_, ((Below.refl _ _).alloc (Nat.le_refl _) _).trans (hb1.mono (by simp))⟩;unfold PtrD.ok;simp [*]
theorem Zaw (p : PtrD) (w : World) :
  Calls prog 41 #[.agg #[.int .i64 p.aA, .int .i64 p.al, .int .i64 p.av, .int .i64 p.aC, .int .i64 p.ar]] w fun e w' => e = .returned (.bool p.ok) ∧ Below w.heap.size w w' := by
 go_enter func41, ntmps41
 go_wp2_with (first | (go_at_call 15; refine (Zbg p _).mono ?_; rintro e w1 ⟨rfl, hb1⟩; obtain ⟨hc1, _⟩ := ZnZ hb1) | (go_at_call 78; refine (ZjY _ _).mono ?_; rintro e w' ⟨rfl, rfl⟩) | (go_at_call 47; refine (YI _ _ _ _).mono ?_; rintro e w' ⟨rfl, rfl⟩))
 all_goals
  go_ret
  refine ⟨Zs ?_, ((Below.refl _ _).alloc (Nat.le_refl _) _).trans (hb1.mono (by simp))⟩;unfold PtrD.ok;simp [*]
theorem Tryz.infoIntS : (Tryz.prog.info? 3).map (fun i => (i.zero, i.size, i.bytes)) = some (some (.int .i64 0), 1, 8) := by kernel_rfl
theorem Tryz.infoStringS : (Tryz.prog.info? 9).map (fun i => (i.zero, i.size, i.bytes)) = some (some (.string ByteArray.empty), 1, 16) := by kernel_rfl
structure Zp where
  ac : List Int
  ah : List Int
def Zp.Reads (w : World) (v : Value) (x : Zp) : Prop := ∃ (a0 : Option Addr) (c0 : Nat) (a1 : Option Addr) (c1 : Nat), v = .agg #[.slice a0 x.ac.length c0, .slice a1 x.ah.length c1] ∧ Rd Zv 1 w a0 x.ac.length x.ac ∧ Rd Zv 1 w a1 x.ah.length x.ah
structure Zp.Fit (x : Zp) : Prop where
  f0 : x.ac.length ≤ 1048576
  f1 : x.ah.length ≤ 1048576
def XK (i : Nat) (r l : Int) : Bool := inB l 0 900 && (inB r 0 l && ((r != 0 || l == 0) && (inB i 8 63 || decide (r ≤ 0))))
def Qa (s : Zp) (k : Nat) : Bool := (List.range k).all fun i => XK i (s.ac.getD i 0) (s.ah.getD i 0)
theorem ZcS (s : Zp) (k : Nat) : Qa s (k + 1) = (Qa s k && XK k (s.ac.getD k 0) (s.ah.getD k 0)) := by
 simp [Qa, List.range_succ]
theorem Zfe {s : Zp} {k m : Nat} (h : Qa s m = true) (hk : k < m) : XK k (s.ac.getD k 0) (s.ah.getD k 0) = true := by
 simp only [Qa, List.all_eq_true] at h;exact h k (List.mem_range.2 hk)
theorem ZdE {s : Zp} {k m : Nat} (hk : k < m) (h : XK k (s.ac.getD k 0) (s.ah.getD k 0) = false) : Qa s m = false := by
 cases hm : Qa s m with
 | false => rfl
 | true => rw [Zfe hm hk] at h; cases h
def Zp.ok (s : Zp) : Bool := s.ac.length == 64 && s.ah.length == 64 && Qa s 64
theorem XZ {α : Type} {xs : List α} {k : Nat} {x d : α} (h : xs[k]? = some x) : xs.getD k d = x := by simp [List.getD, h]
theorem Vq (v : Value) (s : Zp) (w : World) (hr : Zp.Reads w v s) (hf : s.Fit) :
  Calls prog 50 #[v] w fun e w' => e = .returned (.bool s.ok) ∧ Below w.heap.size w w' := by
 obtain ⟨a0, c0, a1, c1, rfl, r0, r1⟩ := hr;have hf0 := hf.f0;have hf1 := hf.f1;have hb0 : Below w.heap.size w (w.alloc (.cells #[.slice a0 s.ac.length c0, .slice a1 s.ah.length c1] 26)) := (Below.refl _ _).alloc (Nat.le_refl _) _;have hA0 := YO w (.cells #[.slice a0 s.ac.length c0, .slice a1 s.ah.length c1] 26) _ rfl
 by_cases h0 : s.ac.length = 64
 rotate_left
 ·have H : Hid (s.ok = false) := by show _ = _; simp [Zp.ok, h0]
  go_enter func50, ntmps50
  go_wp2
  go_ret
  exact ⟨Zs H.out.symm, hb0⟩
 have H0 := Lib.hid h0;have hl0 := h0;rw [h0] at r0 hb0 hA0 ⊢;clear h0
 by_cases h1 : s.ah.length = 64
 rotate_left
 ·have H : Hid (s.ok = false) := by show _ = _; simp [Zp.ok, h1]
  go_enter func50, ntmps50
  go_wp2
  go_ret
  exact ⟨Zs H.out.symm, hb0⟩
 have H : Hid (s.ok = Qa s 64) := by show _ = _; simp [Zp.ok, hl0, h1]
 rw [h1] at r1 hb0 hA0 ⊢;have H1 := Lib.hid h1;clear h1 hl0 hf0 hf1 hf
 go_enter func50, ntmps50
 go_wp2
 go_loopw [3] (fun i wr => ∃ k : Nat, k ≤ 64 ∧ i = .int .i64 k ∧ Qa s k = true ∧ Below w.heap.size w wr ∧ wr.heap[w.heap.size]? = some (.cells #[.slice a0 64 c0, .slice a1 64 c1] 26 (0, 0))) (fun i _ => 64 - (intOf i).toNat)
 case atStart => exact ⟨0, by omega, rfl, rfl, hb0, hA0⟩
 case round =>
  obtain ⟨k, hk, rfl, hok, hb, hA⟩ := hrel;have HOK := Lib.hid hok;clear hok
  by_cases hlt : k < 64
  ·obtain ⟨b, off, r, hx0, rfl, hbl, hrg⟩ := r0.at_ k (by rw [H0.out]; exact hlt)
   have d0 := (ZJ hrg hb hbl) 0 _ rfl;simp only [Nat.mul_one, Nat.add_zero] at d0;obtain ⟨b2, off2, l, hx1, rfl, hbl2, hrg2⟩ := r1.at_ k (by rw [H1.out]; exact hlt);have d1 := (ZJ hrg2 hb hbl2) 0 _ rfl;simp only [Nat.mul_one, Nat.add_zero] at d1;have hg0 : s.ac.getD k 0 = r := XZ hx0;have hg1 : s.ah.getD k 0 = l := XZ hx1;have p0 : wr.cell? ⟨w.heap.size, 0, none⟩ = some (.slice (some ⟨b, off, none⟩) 64 c0) := Zh hA 0;have p1 : wr.cell? ⟨w.heap.size, 1, none⟩ = some (.slice (some ⟨b2, off2, none⟩) 64 c1) := Zh hA 1;have hlast : Hid (XK k r l = false → s.ok = false) := fun h => by rw [H.out]; exact ZdE hlt (by rw [hg0, hg1]; exact h)
   have hnext : Hid (XK k r l = true → Qa s (k + 1) = true) := fun h => by rw [ZcS, HOK.out, hg0, hg1, h]; rfl
   have HA := Lib.hid hA;clear hx0 hx1 hg0 hg1 hrg hrg2 hA hA0 hb0
   by_cases g1 : inB l 0 900 = true
   rotate_left
   ·have g1' : inB l 0 900 = false := by simpa using g1
    have HR : Hid (XK k r l = false) := by show _ = _; simp [XK, g1']
    clear g1
    go_wp2_with fail
    go_quiet ((first | (go_at_call 51; exact Calls.quiet_of_same ((Z0 _ _ _ _).mono fun _ _ ⟨h1, h2⟩ => ⟨h1, h2.symm⟩)) | (go_at_call 79; exact Calls.quiet_of_same ((XY _ _).mono fun _ _ ⟨h1, h2⟩ => ⟨h1, h2.symm⟩))))
    go_wp2
    go_ret
    exact ⟨Zs (hlast.out HR.out).symm, hb.trans (ZS _ _ _)⟩
   have hl := Zw g1
   by_cases g2 : inB r 0 l = true
   rotate_left
   ·have g2' : inB r 0 l = false := by simpa using g2
    have HR : Hid (XK k r l = false) := by show _ = _; simp [XK, g2']
    clear g2
    go_wp2_with fail
    go_quiet ((first | (go_at_call 51; exact Calls.quiet_of_same ((Z0 _ _ _ _).mono fun _ _ ⟨h1, h2⟩ => ⟨h1, h2.symm⟩)) | (go_at_call 79; exact Calls.quiet_of_same ((XY _ _).mono fun _ _ ⟨h1, h2⟩ => ⟨h1, h2.symm⟩))))
    go_wp2
    go_ret
    exact ⟨Zs (hlast.out HR.out).symm, hb.trans (ZS _ _ _)⟩
   have hr2 := Zw g2
   by_cases g3 : r = 0
   ·subst g3
    by_cases g4 : l = 0
    ·subst g4
     cases g5 : inB (k : Int) 8 63
     ·have HR : Hid (XK k 0 0 = true) := by show _ = _; simp [XK, g1, g2]
      go_wp2_with fail
      go_quiet ((first | (go_at_call 51; exact Calls.quiet_of_same ((Z0 _ _ _ _).mono fun _ _ ⟨h1, h2⟩ => ⟨h1, h2.symm⟩)) | (go_at_call 79; exact Calls.quiet_of_same ((XY _ _).mono fun _ _ ⟨h1, h2⟩ => ⟨h1, h2.symm⟩))))
      go_wp2
      go_roundw
      case rel => exact ⟨k + 1, by omega, by go_num, hnext.out HR.out, hb.trans (ZS _ _ _), HA.out⟩
      case measure => simp [intOf]; omega
     ·have HR : Hid (XK k 0 0 = true) := by show _ = _; simp [XK, g1, g2]
      go_wp2_with fail
      go_quiet ((first | (go_at_call 51; exact Calls.quiet_of_same ((Z0 _ _ _ _).mono fun _ _ ⟨h1, h2⟩ => ⟨h1, h2.symm⟩)) | (go_at_call 79; exact Calls.quiet_of_same ((XY _ _).mono fun _ _ ⟨h1, h2⟩ => ⟨h1, h2.symm⟩))))
      go_wp2
      go_roundw
      case rel => exact ⟨k + 1, by omega, by go_num, hnext.out HR.out, hb.trans (ZS _ _ _), HA.out⟩
      case measure => simp [intOf]; omega
    ·have g4' : ((l : Int) != 0) = true := by simpa using g4
     have HR : Hid (XK k 0 l = false) := by show _ = _; simp [XK, g4]
     clear g4
     go_wp2_with fail
     go_quiet ((first | (go_at_call 51; exact Calls.quiet_of_same ((Z0 _ _ _ _).mono fun _ _ ⟨h1, h2⟩ => ⟨h1, h2.symm⟩)) | (go_at_call 79; exact Calls.quiet_of_same ((XY _ _).mono fun _ _ ⟨h1, h2⟩ => ⟨h1, h2.symm⟩))))
     go_wp2
     go_ret
     exact ⟨Zs (hlast.out HR.out).symm, hb.trans (ZS _ _ _)⟩
   ·have g3' : ((r : Int) == 0) = false := by simpa using g3
    have g6 : 0 < r := by omega
    cases g5 : inB (k : Int) 8 63
    ·have HR : Hid (XK k r l = false) := by show _ = _; simp [XK, g5]; omega
     clear g3
     go_wp2_with fail
     go_quiet ((first | (go_at_call 51; exact Calls.quiet_of_same ((Z0 _ _ _ _).mono fun _ _ ⟨h1, h2⟩ => ⟨h1, h2.symm⟩)) | (go_at_call 79; exact Calls.quiet_of_same ((XY _ _).mono fun _ _ ⟨h1, h2⟩ => ⟨h1, h2.symm⟩))))
     go_wp2
     go_ret
     exact ⟨Zs (hlast.out HR.out).symm, hb.trans (ZS _ _ _)⟩
    ·have HR : Hid (XK k r l = true) := by show _ = _; simp [XK, g1, g2, g5, g3]
     clear g3
     go_wp2_with fail
     go_quiet ((first | (go_at_call 51; exact Calls.quiet_of_same ((Z0 _ _ _ _).mono fun _ _ ⟨h1, h2⟩ => ⟨h1, h2.symm⟩)) | (go_at_call 79; exact Calls.quiet_of_same ((XY _ _).mono fun _ _ ⟨h1, h2⟩ => ⟨h1, h2.symm⟩))))
     go_wp2
     go_roundw
     case rel => exact ⟨k + 1, by omega, by go_num, hnext.out HR.out, hb.trans (ZS _ _ _), HA.out⟩
     case measure => simp [intOf]; omega
  ·have hk' : k = 64 := by omega
   subst hk'
   go_wp2
   go_ret
   exact ⟨Zs (by rw [H.out, HOK.out]), hb⟩
def XG (i : Nat) (r l : Int) : Bool := inB r 0 900 && (inB l r 900 && ((r != 0 || l == 0) && (decide (r ≤ 0) || !decide ((i : Int) < 8))))
theorem V8 {i : Nat} {r l : Int} (hi : i < 64 := by omega) : XK i r l = XG i r l := by
 unfold XK XG inB;rw [Bool.eq_iff_iff]
 simp
 omega
theorem Zdl (v : Value) (s : Zp) (w : World) (hr : Zp.Reads w v s) (hf : s.Fit) :
  Calls prog 46 #[v] w fun e w' => e = .returned (.bool s.ok) ∧ Below w.heap.size w w' := by
 obtain ⟨a0, c0, a1, c1, rfl, r0, r1⟩ := hr;have hf0 := hf.f0;have hf1 := hf.f1;have hb0 : Below w.heap.size w (w.alloc (.cells #[.slice a0 s.ac.length c0, .slice a1 s.ah.length c1] 26)) := (Below.refl _ _).alloc (Nat.le_refl _) _;have hA0 := YO w (.cells #[.slice a0 s.ac.length c0, .slice a1 s.ah.length c1] 26) _ rfl
 by_cases h0 : s.ac.length = 64
 rotate_left
 ·have H : Hid (s.ok = false) := by show _ = _; simp [Zp.ok, h0]
  go_enter func46, ntmps46
  go_wp2
  go_ret
  exact ⟨Zs H.out.symm, hb0⟩
 have H0 := Lib.hid h0;have hl0 := h0;rw [h0] at r0 hb0 hA0 ⊢;clear h0
 by_cases h1 : s.ah.length = 64
 rotate_left
 ·have H : Hid (s.ok = false) := by show _ = _; simp [Zp.ok, h1]
  go_enter func46, ntmps46
  go_wp2
  go_ret
  exact ⟨Zs H.out.symm, hb0⟩
 have H : Hid (s.ok = Qa s 64) := by show _ = _; simp [Zp.ok, hl0, h1]
 rw [h1] at r1 hb0 hA0 ⊢;have H1 := Lib.hid h1;clear h1 hl0 hf0 hf1 hf
 go_enter func46, ntmps46
 go_wp2
 go_loopw [19] (fun i wr => ∃ k : Nat, k ≤ 64 ∧ i = .int .i64 k ∧ Qa s k = true ∧ Below w.heap.size w wr ∧ wr.heap[w.heap.size]? = some (.cells #[.slice a0 64 c0, .slice a1 64 c1] 26 (0, 0))) (fun i _ => 64 - (intOf i).toNat)
 case atStart => exact ⟨0, by omega, rfl, rfl, hb0, hA0⟩
 case round =>
  obtain ⟨k, hk, rfl, hok, hb, hA⟩ := hrel;have HOK := Lib.hid hok;clear hok
  by_cases hlt : k < 64
  ·obtain ⟨b, off, r, hx0, rfl, hbl, hrg⟩ := r0.at_ k (by rw [H0.out]; exact hlt)
   have d0 := (ZJ hrg hb hbl) 0 _ rfl;simp only [Nat.mul_one, Nat.add_zero] at d0;obtain ⟨b2, off2, l, hx1, rfl, hbl2, hrg2⟩ := r1.at_ k (by rw [H1.out]; exact hlt);have d1 := (ZJ hrg2 hb hbl2) 0 _ rfl;simp only [Nat.mul_one, Nat.add_zero] at d1;have hg0 : s.ac.getD k 0 = r := XZ hx0;have hg1 : s.ah.getD k 0 = l := XZ hx1;have p0 : wr.cell? ⟨w.heap.size, 0, none⟩ = some (.slice (some ⟨b, off, none⟩) 64 c0) := Zh hA 0;have p1 : wr.cell? ⟨w.heap.size, 1, none⟩ = some (.slice (some ⟨b2, off2, none⟩) 64 c1) := Zh hA 1;have hlast : Hid (XK k r l = false → s.ok = false) := fun h => by rw [H.out]; exact ZdE hlt (by rw [hg0, hg1]; exact h)
   have hnext : Hid (XK k r l = true → Qa s (k + 1) = true) := fun h => by rw [ZcS, HOK.out, hg0, hg1, h]; rfl
   have HA := Lib.hid hA;clear hx0 hx1 hg0 hg1 hrg hrg2 hA hA0 hb0;have hlast : Hid (XG k r l = false → s.ok = false) := fun h => hlast.out (by rw [V8]; exact h)
   have hnext : Hid (XG k r l = true → Qa s (k + 1) = true) := fun h => hnext.out (by rw [V8]; exact h)
   by_cases g1 : inB r 0 900 = true
   rotate_left
   ·have g1' : inB r 0 900 = false := by simpa using g1
    have HR : Hid (XG k r l = false) := by show _ = _; simp [XG, g1']
    clear g1
    go_wp2_with (go_at_call 47; refine (YI _ _ _ _).mono ?_; rintro e w' ⟨rfl, rfl⟩)
    go_ret
    exact ⟨Zs (hlast.out HR.out).symm, hb⟩
   have hr2 := Zw g1
   by_cases g2 : inB l r 900 = true
   rotate_left
   ·have g2' : inB l r 900 = false := by simpa using g2
    have HR : Hid (XG k r l = false) := by show _ = _; simp [XG, g2']
    clear g2
    go_wp2_with (go_at_call 47; refine (YI _ _ _ _).mono ?_; rintro e w' ⟨rfl, rfl⟩)
    go_ret
    exact ⟨Zs (hlast.out HR.out).symm, hb⟩
   have hl := Zw g2
   by_cases g3 : r = 0
   ·subst g3
    by_cases g4 : l = 0
    ·subst g4
     have HR : Hid (XG k 0 0 = true) := by show _ = _; simp [XG, g1]
     go_wp2_with (go_at_call 47; refine (YI _ _ _ _).mono ?_; rintro e w' ⟨rfl, rfl⟩)
     go_roundw
     case rel => exact ⟨k + 1, by omega, by go_num, hnext.out HR.out, hb, HA.out⟩
     case measure => simp [intOf]; omega
    ·have g4' : ((l : Int) != 0) = true := by simpa using g4
     have HR : Hid (XG k 0 l = false) := by show _ = _; simp [XG, g4]
     clear g4
     go_wp2_with (go_at_call 47; refine (YI _ _ _ _).mono ?_; rintro e w' ⟨rfl, rfl⟩)
     go_ret
     exact ⟨Zs (hlast.out HR.out).symm, hb⟩
   ·have g3' : ((r : Int) == 0) = false := by simpa using g3
    have g6 : 0 < r := by omega
    by_cases g5 : (k : Int) < 8
    ·have HR : Hid (XG k r l = false) := by show _ = _; simp [XG, g5, g6]
     clear g3
     go_wp2_with (go_at_call 47; refine (YI _ _ _ _).mono ?_; rintro e w' ⟨rfl, rfl⟩)
     go_ret
     exact ⟨Zs (hlast.out HR.out).symm, hb⟩
    ·have HR : Hid (XG k r l = true) := by show _ = _; simp [XG, g1, g2, g5, g3]
     clear g3
     go_wp2_with (go_at_call 47; refine (YI _ _ _ _).mono ?_; rintro e w' ⟨rfl, rfl⟩)
     go_roundw
     case rel => exact ⟨k + 1, by omega, by go_num, hnext.out HR.out, hb, HA.out⟩
     case measure => simp [intOf]; omega
  ·have hk' : k = 64 := by omega
   subst hk'
   go_wp2
   go_ret
   exact ⟨Zs (by rw [H.out, HOK.out]), hb⟩
structure Za where
  af : List ByteArray
  aa : Zp
  ak : Int
  ag : List PtrD
  aw : Int
  aj : List PtrD
  ax : Bool
abbrev sL (a0 : Option Addr) (c0 : Nat) (a1 : Option Addr) (c1 : Nat) (a2 : Option Addr) (c2 : Nat) (a4 : Option Addr) (c4 : Nat) (a6 : Option Addr) (c6 : Nat) (st : Za) : List Value := [.slice a0 st.af.length c0, .slice a1 st.aa.ac.length c1, .slice a2 st.aa.ah.length c2, .int .i64 st.ak, .slice a4 st.ag.length c4, .int .i64 st.aw, .slice a6 st.aj.length c6, .bool st.ax]
abbrev sV (a0 : Option Addr) (c0 : Nat) (a1 : Option Addr) (c1 : Nat) (a2 : Option Addr) (c2 : Nat) (a4 : Option Addr) (c4 : Nat) (a6 : Option Addr) (c6 : Nat) (st : Za) : Value := .agg #[.slice a0 st.af.length c0, .slice a1 st.aa.ac.length c1, .slice a2 st.aa.ah.length c2, .int .i64 st.ak, .slice a4 st.ag.length c4, .int .i64 st.aw, .slice a6 st.aj.length c6, .bool st.ax]
def Za.Reads (w : World) (v : Value) (x : Za) : Prop := ∃ (a0 : Option Addr) (c0 : Nat) (a1 : Option Addr) (c1 : Nat) (a2 : Option Addr) (c2 : Nat) (a4 : Option Addr) (c4 : Nat) (a6 : Option Addr) (c6 : Nat), v = .agg #[.slice a0 x.af.length c0, .slice a1 x.aa.ac.length c1, .slice a2 x.aa.ah.length c2, .int .i64 x.ak, .slice a4 x.ag.length c4, .int .i64 x.aw, .slice a6 x.aj.length c6, .bool x.ax] ∧ Rd Zx 1 w a0 x.af.length x.af ∧ Rd Zv 1 w a1 x.aa.ac.length x.aa.ac ∧ Rd Zv 1 w a2 x.aa.ah.length x.aa.ah ∧ Rd PtrD.cells 5 w a4 x.ag.length x.ag ∧ Rd PtrD.cells 5 w a6 x.aj.length x.aj
theorem Za.Reads.below {w w' : World} {v : Value} {x : Za} (h : Za.Reads w v x) (hb : Below w.heap.size w w') : Za.Reads w' v x := by
 obtain ⟨a0, c0, a1, c1, a2, c2, a4, c4, a6, c6, rfl, r0, r1, r2, r4, r6⟩ := h;exact ⟨a0, c0, a1, c1, a2, c2, a4, c4, a6, c6, rfl, r0.below hb, r1.below hb, r2.below hb, r4.below hb, r6.below hb⟩
structure Za.Fit (x : Za) : Prop where
  f0 : x.af.length ≤ 1048576
  f1 : x.aa.ac.length ≤ 1048576
  f2 : x.aa.ah.length ≤ 1048576
  f4 : x.ag.length ≤ 1048576
  f6 : x.aj.length ≤ 1048576
def cnt (ps : List PtrD) (i : Nat) : Nat := (ps.filter fun p => p.aA == (i : Int)).length
theorem VC (ps : List PtrD) (p : PtrD) (i : Nat) : cnt (ps ++ [p]) i = cnt ps i + if p.aA = (i : Int) then 1 else 0 := by
 unfold cnt;rw [List.filter_append, List.length_append]
 by_cases h : p.aA = (i : Int) <;> simp [h]
theorem Zgg (ps : List PtrD) (i : Nat) : cnt ps i ≤ ps.length := List.length_filter_le _ _
theorem Zk (a b : List PtrD) (i : Nat) : cnt (a ++ b) i = cnt a i + cnt b i := by simp [cnt, List.filter_append]
theorem Zk5 (ps : List PtrD) (k i : Nat) : cnt (ps.take k) i ≤ cnt ps i := by
 have h := Zk (ps.take k) (ps.drop k) i;rw [List.take_append_drop] at h; omega
def YR (ps : List PtrD) : List Value := (List.range 64).map fun i => .int .i64 (cnt ps i : Nat)
theorem Jo (ps : List PtrD) : (YR ps).length = 64 := by simp [YR]
theorem Xp (ps : List PtrD) (i : Nat) (h : i < 64) : (YR ps)[i]? = some (.int .i64 (cnt ps i : Nat)) := by simp [YR, h]
theorem Ux (ps : List PtrD) (p : PtrD) (a : Nat) (ha : p.aA = (a : Int)) (h : a < 64) : (YR ps).set a (.int .i64 ((cnt ps a : Nat) + 1)) = YR (ps ++ [p]) := by
 apply List.ext_getElem?
 intro i
 by_cases hi : i < 64
 ·rw [Xp _ _ hi, VC, List.getElem?_set]
  by_cases hai : a = i
  ·subst hai
   simp [Jo, h, ha]
  ·rw [if_neg hai, Xp _ _ hi, if_neg (by rw [ha]; omega)]
   simp
 ·rw [List.getElem?_eq_none (by rw [List.length_set, Jo]; omega), List.getElem?_eq_none (by rw [Jo]; omega)]
def Yc (p : PtrD) (most : Int) : Bool := p.ok && (!p.hole && decide (p.al ≤ most))
def YZ (st : Za) (i : Nat) : Bool := decide ((st.af.getD i ByteArray.empty).size ≤ 128) && (((st.af.getD i ByteArray.empty).size == 0) == (st.aa.ac.getD i 0 == 0) && decide (st.aa.ah.getD i 0 ≤ st.ak))
def Xq (st : Za) (k : Nat) : Bool := (List.range k).all fun i => YZ st i
theorem ZcT (st : Za) (k : Nat) : Xq st (k + 1) = (Xq st k && YZ st k) := by simp [Xq, List.range_succ]
theorem UC {st : Za} {k m : Nat} (h : Xq st m = true) (hk : k < m) : YZ st k = true := by
 simp only [Xq, List.all_eq_true] at h;exact h k (List.mem_range.2 hk)
theorem ZdF {st : Za} {k m : Nat} (hk : k < m) (h : YZ st k = false) : Xq st m = false := by
 cases hm : Xq st m with
 | false => rfl
 | true => rw [UC hm hk] at h; cases h
def XH (refs : List Int) (ps : List PtrD) : Bool := (List.range 64).all fun i => decide ((cnt ps i : Int) ≤ refs.getD i 0)
def Za.ok (st : Za) : Bool :=
 st.af.length == 64 && (st.aa.ok && (inB st.ak 1 900 && (inB st.aw 0 (st.ak - 1) && (Xq st 64 &&
  (st.ag.all (fun p => Yc p (st.ak - 1)) && (st.aj.all (fun p => Yc p st.aw) && XH st.aa.ac (st.ag ++ st.aj)))))))
def Vr (st : Za) (j : Nat) : Option PtrD := (st.ag ++ st.aj)[j]?
def JE (st : Za) (j : Nat) : Int := if j < st.ag.length then st.ak - 1 else st.aw
structure Vs (st : Za) (j : Nat) : Prop where
  each : ∀ i p, i < j → Vr st i = some p → Yc p (JE st i) = true
  few : ∀ i, i < 64 → 0 < cnt ((st.ag ++ st.aj).take j) i → (cnt ((st.ag ++ st.aj).take j) i : Int) ≤ st.aa.ac.getD i 0
theorem Vs.zero (st : Za) : Vs st 0 := ⟨fun i p h => absurd h (Nat.not_lt_zero _), fun i hi h => by simp [cnt] at h⟩
theorem UD {p : PtrD} {m : Int} (h : Yc p m = true) : 8 ≤ p.aA ∧ p.aA ≤ 63 ∧ p.al ≤ m ∧ 1 ≤ p.al ∧ p.al ≤ 900 := by
 simp only [Yc, PtrD.ok, Bool.and_eq_true, Bool.or_eq_true, Bool.not_eq_true', decide_eq_true_eq] at h;obtain ⟨h1, h2, h3⟩ := h;rw [h2] at h1;rcases h1 with h1 | h1
 ·cases h1
 ·obtain ⟨⟨⟨⟨a, b⟩, _⟩, _⟩, _⟩ := h1
  have := Zw a;have := Zw b
  omega
theorem Vs.succ {st : Za} {j : Nat} (h : Vs st j) {p : PtrD} (hp : Vr st j = some p) (hin : Yc p (JE st j) = true) (a : Nat) (ha : p.aA = (a : Int)) (hle : ((cnt ((st.ag ++ st.aj).take j) a + 1 : Nat) : Int) ≤ st.aa.ac.getD a 0) : Vs st (j + 1) := by
 obtain ⟨hj, hpe⟩ := List.getElem?_eq_some_iff.1 hp;have hs : (st.ag ++ st.aj).take (j + 1) = (st.ag ++ st.aj).take j ++ [p] := by rw [List.take_succ_eq_append_getElem hj, hpe]
 refine ⟨fun i q hi hq => ?_, fun i hi hc => ?_⟩
 ·by_cases hij : i = j
  ·subst hij
   obtain rfl := Option.some.inj (hp.symm.trans hq);exact hin
  ·exact h.each i q (by omega) hq
 ·rw [hs, VC] at hc ⊢
  by_cases hai : p.aA = (i : Int)
  ·have : a = i := by omega
   subst this;rw [if_pos hai];exact hle
  ·rw [if_neg hai] at hc ⊢
   exact h.few i hi hc
theorem Vs.all {st : Za} (h : Vs st (st.ag ++ st.aj).length) (hr : ∀ i, i < 64 → 0 ≤ st.aa.ac.getD i 0) :
  (st.ag.all (fun p => Yc p (st.ak - 1)) && (st.aj.all (fun p => Yc p st.aw) && XH st.aa.ac (st.ag ++ st.aj))) = true := by
 rw [Bool.and_eq_true, Bool.and_eq_true];refine ⟨List.all_eq_true.2 fun p hp => ?_, List.all_eq_true.2 fun p hp => ?_, List.all_eq_true.2 fun i hi => ?_⟩
 ·obtain ⟨i, hi, hpe⟩ := List.mem_iff_getElem.1 hp
  have := h.each i p (by rw [List.length_append]; omega) (by unfold Vr; rw [List.getElem?_append_left hi, List.getElem?_eq_getElem hi, hpe])
  rwa [JE, if_pos hi] at this
 ·obtain ⟨i, hi, hpe⟩ := List.mem_iff_getElem.1 hp
  have := h.each (st.ag.length + i) p (by rw [List.length_append]; omega) (by unfold Vr; rw [List.getElem?_append_right (by omega), Nat.add_sub_cancel_left, List.getElem?_eq_getElem hi, hpe])
  rwa [JE, if_neg (by omega)] at this
 ·have hi' := List.mem_range.1 hi
  simp only [decide_eq_true_eq]
  by_cases hc : 0 < cnt (st.ag ++ st.aj) i
  ·have := h.few i hi' (by rw [List.take_of_length_le (Nat.le_refl _)]; exact hc)
   rwa [List.take_of_length_le (Nat.le_refl _)] at this
  ·have := hr i hi'
   omega
theorem Zff {st : Za} {j : Nat} {p : PtrD} (hp : Vr st j = some p) (hin : Yc p (JE st j) = false) : st.ok = false := by
 obtain ⟨hj, hpe⟩ := List.getElem?_eq_some_iff.1 hp;unfold Za.ok
 by_cases hg : j < st.ag.length
 ·have hm : p ∈ st.ag := by rw [← hpe, List.getElem_append_left hg]; exact List.getElem_mem _
  have : st.ag.all (fun p => Yc p (st.ak - 1)) = false := by
   rw [List.all_eq_false];exact ⟨p, hm, by rw [JE, if_pos hg] at hin; simp [hin]⟩
  simp [this]
 ·have hlt : j - st.ag.length < st.aj.length := by rw [List.length_append] at hj; omega
  have hm : p ∈ st.aj := by rw [← hpe, List.getElem_append_right (by omega)]; exact List.getElem_mem _
  have : st.aj.all (fun p => Yc p st.aw) = false := by
   rw [List.all_eq_false];exact ⟨p, hm, by rw [JE, if_neg hg] at hin; simp [hin]⟩
  simp [this]
theorem ZdG {st : Za} {j : Nat} {p : PtrD} (hp : Vr st j = some p) (a : Nat) (ha : p.aA = (a : Int)) (h64 : a < 64) (hlt : st.aa.ac.getD a 0 < ((cnt ((st.ag ++ st.aj).take j) a + 1 : Nat) : Int)) : st.ok = false := by
 obtain ⟨hj, hpe⟩ := List.getElem?_eq_some_iff.1 hp;have hs : (st.ag ++ st.aj).take (j + 1) = (st.ag ++ st.aj).take j ++ [p] := by rw [List.take_succ_eq_append_getElem hj, hpe]
 have h1 := Zk5 (st.ag ++ st.aj) (j + 1) a;rw [hs, VC, if_pos ha] at h1;have : XH st.aa.ac (st.ag ++ st.aj) = false := by
  unfold XH;rw [List.all_eq_false];exact ⟨a, List.mem_range.2 h64, by simp only [decide_eq_true_eq]; omega⟩
 unfold Za.ok;simp [this]
structure Ze4 (st : Za) : Prop where
  rows : st.af.length = 64
  space : st.aa.ok = true
  txg : 1 ≤ st.ak ∧ st.ak ≤ 900
  keep : 0 ≤ st.aw ∧ st.aw ≤ st.ak - 1
  each : Xq st 64 = true
  gone : st.ag.all (fun p => Yc p (st.ak - 1)) = true
  dead : st.aj.all (fun p => Yc p st.aw) = true
  owed : XH st.aa.ac (st.ag ++ st.aj) = true
theorem Za.ok_spec {st : Za} (h : st.ok = true) : Ze4 st := by
 simp only [Za.ok, Bool.and_eq_true, beq_iff_eq] at h;obtain ⟨h1, h2, h3, h4, h5, h6, h7, h8⟩ := h;exact ⟨h1, h2, Zw h3, Zw h4, h5, h6, h7, h8⟩
structure Zin (s : Zp) : Prop where
  refs : s.ac.length = 64
  last : s.ah.length = 64
  each : ∀ i, i < 64 → 0 ≤ s.ac.getD i 0 ∧ s.ac.getD i 0 ≤ s.ah.getD i 0 ∧ s.ah.getD i 0 ≤ 900 ∧ (s.ac.getD i 0 = 0 → s.ah.getD i 0 = 0) ∧ (i < 8 → s.ac.getD i 0 = 0)
theorem Zp.ok_spec {s : Zp} (h : s.ok = true) : Zin s := by
 simp only [Zp.ok, Bool.and_eq_true, beq_iff_eq] at h;obtain ⟨⟨h1, h2⟩, h3⟩ := h;refine ⟨h1, h2, fun i hi => ?_⟩;have h4 := Zfe h3 hi;rw [V8 hi] at h4;simp only [XG, Bool.and_eq_true, Bool.or_eq_true, decide_eq_true_eq, bne_iff_ne, beq_iff_eq, Bool.not_eq_true', decide_eq_false_iff_not] at h4;obtain ⟨h5, h6, h7, h8⟩ := h4;have := Zw h5;have := Zw h6;refine ⟨by omega, by omega, by omega, fun h0 => ?_, fun h0 => ?_⟩
 ·rcases h7 with h7 | h7
  ·exact absurd h0 h7
  ·exact h7
 ·rcases h8 with h8 | h8
  ·omega
  ·omega
theorem Zfg (ps : List PtrD) : (madeCells (Value.int .i64 0).cells (64 * 1)).toList = YR (ps.take 0) := by
 show (madeCells #[Value.int .i64 0] 64).toList = _;rw [toList_madeCells_one]
 apply List.ext_getElem?
 intro i
 by_cases hi : i < 64
 ·rw [Xp _ _ hi, List.getElem?_replicate, if_pos hi]; simp [cnt]
 ·rw [List.getElem?_eq_none (by rw [List.length_replicate]; omega), List.getElem?_eq_none (by rw [Jo]; omega)]
end Go.Proofs.YtfhdmfcfcgbgeaaGreat
