/- A part of the proof in YtfhdmfcfcgbgeaaGreatDoorNpX34. -/
import Derived.BigQuiet
import Derived.Deep.QuietTactic
import Derived.Deep.RegionWith
import Derived.StillTailTactics
import Derived.Test.YtfhdmfcfcgbgeaaGreatDoorRows
import Derived.Test.YtfhdmfcfcgbgeaaGreatDoorNpX1
namespace Go.Proofs.YtfhdmfcfcgbgeaaGreatDoor
open Go.Proofs.Tryz
set_option linter.unusedVariables false
set_option linter.unusedSimpArgs false
set_option maxHeartbeats 1000000
set_option maxRecDepth 100000
open Go.RowKit
structure PtrD where
  aC : Int
  al : Int
  am : Int
  aB : Int
  aq : Int
abbrev pL (p : PtrD) : List Value := [.int .i64 p.aC, .int .i64 p.al, .int .i64 p.am, .int .i64 p.aB, .int .i64 p.aq]
abbrev pV (p : PtrD) : Value := .agg #[.int .i64 p.aC, .int .i64 p.al, .int .i64 p.am, .int .i64 p.aB, .int .i64 p.aq]
def PtrD.cells (x : PtrD) : List Value := [.int .i64 x.aC, .int .i64 x.al, .int .i64 x.am, .int .i64 x.aB, .int .i64 x.aq]
theorem PtrD.cells_len (x : PtrD) : x.cells.length = 5 := rfl
theorem PtrD.at_ {w : World} {b o : Nat} {x : PtrD} (h : w.rangeAt b o x.cells) :
  w.cell? ⟨b, o, none⟩ = some (.int .i64 x.aC) ∧ w.cell? ⟨b, o + 1, none⟩ = some (.int .i64 x.al) ∧ w.cell? ⟨b, o + 2, none⟩ = some (.int .i64 x.am) ∧ w.cell? ⟨b, o + 3, none⟩ = some (.int .i64 x.aB) ∧ w.cell? ⟨b, o + 4, none⟩ = some (.int .i64 x.aq) :=
 ⟨h 0 _ rfl, h 1 _ rfl, h 2 _ rfl, h 3 _ rfl, h 4 _ rfl⟩
def inB (n lo hi : Int) : Bool := decide (lo ≤ n) && decide (n ≤ hi)
theorem Zs {n lo hi : Int} (h : inB n lo hi = true) : lo ≤ n ∧ n ≤ hi := by simpa [inB] using h
theorem XT {n lo hi : Int} (h : lo ≤ n) (k : n ≤ hi) : inB n lo hi = true := by simp [inB, h, k]
theorem Ya (a b c : Int) (w : World) :
  Calls prog 25 #[.int .i64 a, .int .i64 b, .int .i64 c] w fun e w' => e = .returned (.bool (inB a b c)) ∧ w = w' := by
 by_cases h1 : b ≤ a
 ·have H : Hid (inB a b c = decide (a ≤ c)) := by show _ = _; simp [inB, h1]
  go_enter func25, ntmps25
  go_wp2
  all_goals (go_ret; exact ⟨ZS H.out.symm, rfl⟩)
 ·have H : Hid (inB a b c = false) := by show _ = _; simp [inB, h1]
  go_enter func25, ntmps25
  go_wp2
  all_goals (go_ret; exact ⟨ZS H.out.symm, rfl⟩)
theorem Qp (a b c : Int) (w : World) :
  Calls prog 18 #[.int .i64 a, .int .i64 b, .int .i64 c] w fun e w' => e = .returned (.bool (inB a b c)) ∧ w = w' := by
 by_cases h1 : b ≤ a
 ·have H : Hid (inB a b c = decide (a ≤ c)) := by show _ = _; simp [inB, h1]
  go_enter func18, ntmps18
  go_wp2
  all_goals (go_ret; exact ⟨ZS H.out.symm, rfl⟩)
 ·have H : Hid (inB a b c = false) := by show _ = _; simp [inB, h1]
  go_enter func18, ntmps18
  go_wp2
  all_goals (go_ret; exact ⟨ZS H.out.symm, rfl⟩)
theorem X5 (a : Int) (w : World) :
  Calls prog 48 #[.int .i64 a] w fun e w' => e = .returned (.bool (inB a 8 63)) ∧ w = w' := by
 go_enter func48, ntmps48
 go_wp2_with fail
 refine (Ya _ _ _ _).mono ?_;rintro e w' ⟨rfl, rfl⟩
 go_wp2
 go_ret
 exact ⟨rfl, rfl⟩
theorem ZjT (a : Int) (w : World) :
  Calls prog 45 #[.int .i64 a] w fun e w' => e = .returned (.bool (inB a 8 63)) ∧ w = w' := by
 go_enter func45, ntmps45
 go_wp2_with fail
 refine (Qp _ _ _ _).mono ?_;rintro e w' ⟨rfl, rfl⟩
 go_wp2
 go_ret
 exact ⟨rfl, rfl⟩
def PtrD.hole (p : PtrD) : Bool := p.aC == 0 && p.al == 0 && p.am == 0 && p.aB == 0 && p.aq == 0
def PtrD.ok (p : PtrD) : Bool := p.hole || inB p.aC 8 63 && inB p.al 1 900 && inB p.am 1 128 && inB p.aB 0 99460728 && inB p.aq 0 2
theorem ZA (p : PtrD) (w : World) :
  Calls prog 26 #[.agg #[.int .i64 p.aC, .int .i64 p.al, .int .i64 p.am, .int .i64 p.aB, .int .i64 p.aq]] w fun e w' => e = .returned (.bool p.hole) ∧ Below w.heap.size w w' := by
 go_enter func26, ntmps26
 go_wp2
 all_goals
  go_ret
  refine ⟨ZS ?_, (Below.refl _ _).alloc (Nat.le_refl _) _⟩;unfold PtrD.hole;simp [*]
theorem Js (p : PtrD) (w : World) :
  Calls prog 21 #[.agg #[.int .i64 p.aC, .int .i64 p.al, .int .i64 p.am, .int .i64 p.aB, .int .i64 p.aq]] w fun e w' => e = .returned (.bool p.hole) ∧ Below w.heap.size w w' := by
 go_enter func21, ntmps21
 go_wp2
 all_goals
  go_ret
  refine ⟨ZS ?_, (Below.refl _ _).alloc (Nat.le_refl _) _⟩;unfold PtrD.hole;simp [*]
theorem ZR (p : PtrD) (w : World) :
  Calls prog 24 #[.agg #[.int .i64 p.aC, .int .i64 p.al, .int .i64 p.am, .int .i64 p.aB, .int .i64 p.aq]] w fun e w' => e = .returned (.bool p.ok) ∧ Below w.heap.size w w' := by
 go_enter func24, ntmps24
 go_wp2_with (first | (go_at_call 26; refine (ZA p _).mono ?_; rintro e w1 ⟨rfl, hb1⟩; obtain ⟨hc1, _⟩ := Zoi hb1) | (go_at_call 48; refine (X5 _ _).mono ?_; rintro e w' ⟨rfl, rfl⟩) | (go_at_call 25; refine (Ya _ _ _ _).mono ?_; rintro e w' ⟨rfl, rfl⟩))
 all_goals
  go_ret
  refine ⟨ZS ?_, ((Below.refl _ _).alloc (Nat.le_refl _) _).trans (hb1.mono (by simp))⟩;unfold PtrD.ok;simp [*]
theorem Uz (p : PtrD) (w : World) :
  Calls prog 20 #[.agg #[.int .i64 p.aC, .int .i64 p.al, .int .i64 p.am, .int .i64 p.aB, .int .i64 p.aq]] w fun e w' => e = .returned (.bool p.ok) ∧ Below w.heap.size w w' := by
 go_enter func20, ntmps20
 go_wp2_with (first | (go_at_call 21; refine (Js p _).mono ?_; rintro e w1 ⟨rfl, hb1⟩; obtain ⟨hc1, _⟩ := Zoi hb1) | (go_at_call 45; refine (ZjT _ _).mono ?_; rintro e w' ⟨rfl, rfl⟩) | (go_at_call 18; refine (Qp _ _ _ _).mono ?_; rintro e w' ⟨rfl, rfl⟩))
 all_goals
  go_ret
  refine ⟨ZS ?_, ((Below.refl _ _).alloc (Nat.le_refl _) _).trans (hb1.mono (by simp))⟩;unfold PtrD.ok;simp [*]
theorem Tryz.infoIntS : (Tryz.prog.info? 3).map (fun i => (i.zero, i.size, i.bytes)) = some (some (.int .i64 0), 1, 8) := by kernel_rfl
theorem Tryz.infoStringS : (Tryz.prog.info? 9).map (fun i => (i.zero, i.size, i.bytes)) = some (some (.string ByteArray.empty), 1, 16) := by kernel_rfl
structure Zq where
  ag : List Int
  au : List Int
def Zq.Reads (w : World) (v : Value) (x : Zq) : Prop := ∃ (a0 : Option Addr) (c0 : Nat) (a1 : Option Addr) (c1 : Nat), v = .agg #[.slice a0 x.ag.length c0, .slice a1 x.au.length c1] ∧ Rd ZG 1 w a0 x.ag.length x.ag ∧ Rd ZG 1 w a1 x.au.length x.au
structure Zq.Fit (x : Zq) : Prop where
  f0 : x.ag.length ≤ 1048576
  f1 : x.au.length ≤ 1048576
def Qe (i : Nat) (r l : Int) : Bool := inB l 0 900 && (inB r 0 l && ((r != 0 || l == 0) && (inB i 8 63 || decide (r ≤ 0))))
def Jk (s : Zq) (k : Nat) : Bool := (List.range k).all fun i => Qe i (s.ag.getD i 0) (s.au.getD i 0)
theorem ZgJ (s : Zq) (k : Nat) : Jk s (k + 1) = (Jk s k && Qe k (s.ag.getD k 0) (s.au.getD k 0)) := by
 simp [Jk, List.range_succ]
theorem ZeS {s : Zq} {k m : Nat} (h : Jk s m = true) (hk : k < m) : Qe k (s.ag.getD k 0) (s.au.getD k 0) = true := by
 simp only [Jk, List.all_eq_true] at h;exact h k (List.mem_range.2 hk)
theorem Zh6 {s : Zq} {k m : Nat} (hk : k < m) (h : Qe k (s.ag.getD k 0) (s.au.getD k 0) = false) : Jk s m = false := by
 cases hm : Jk s m with
 | false => rfl
 | true => rw [ZeS hm hk] at h; cases h
def Zq.ok (s : Zq) : Bool := s.ag.length == 64 && s.au.length == 64 && Jk s 64
theorem U8 {α : Type} {xs : List α} {k : Nat} {x d : α} (h : xs[k]? = some x) : xs.getD k d = x := by simp [List.getD, h]
theorem Vs (v : Value) (s : Zq) (w : World) (hr : Zq.Reads w v s) (hf : s.Fit) :
  Calls prog 111 #[v] w fun e w' => e = .returned (.bool s.ok) ∧ Below w.heap.size w w' := by
 obtain ⟨a0, c0, a1, c1, rfl, r0, r1⟩ := hr;have hf0 := hf.f0;have hf1 := hf.f1;have hb0 : Below w.heap.size w (w.alloc (.cells #[.slice a0 s.ag.length c0, .slice a1 s.au.length c1] 41)) := (Below.refl _ _).alloc (Nat.le_refl _) _;have hA0 := XD w (.cells #[.slice a0 s.ag.length c0, .slice a1 s.au.length c1] 41) _ rfl
 by_cases h0 : s.ag.length = 64
 rotate_left
 ·have H : Hid (s.ok = false) := by show _ = _; simp [Zq.ok, h0]
  go_enter func111, ntmps111
  go_wp2
  go_ret
  exact ⟨ZS H.out.symm, hb0⟩
 have H0 := Lib.hid h0;have hl0 := h0;rw [h0] at r0 hb0 hA0 ⊢;clear h0
 by_cases h1 : s.au.length = 64
 rotate_left
 ·have H : Hid (s.ok = false) := by show _ = _; simp [Zq.ok, h1]
  go_enter func111, ntmps111
  go_wp2
  go_ret
  exact ⟨ZS H.out.symm, hb0⟩
 have H : Hid (s.ok = Jk s 64) := by show _ = _; simp [Zq.ok, hl0, h1]
 rw [h1] at r1 hb0 hA0 ⊢;have H1 := Lib.hid h1;clear h1 hl0 hf0 hf1 hf
 go_enter func111, ntmps111
 go_wp2
 go_loopw [3] (fun i wr => ∃ k : Nat, k ≤ 64 ∧ i = .int .i64 k ∧ Jk s k = true ∧ Below w.heap.size w wr ∧ wr.heap[w.heap.size]? = some (.cells #[.slice a0 64 c0, .slice a1 64 c1] 41 (0, 0))) (fun i _ => 64 - (intOf i).toNat)
 case atStart => exact ⟨0, by omega, rfl, rfl, hb0, hA0⟩
 case round =>
  obtain ⟨k, hk, rfl, hok, hb, hA⟩ := hrel;have HOK := Lib.hid hok;clear hok
  by_cases hlt : k < 64
  ·obtain ⟨b, off, r, hx0, rfl, hbl, hrg⟩ := r0.at_ k (by rw [H0.out]; exact hlt)
   have d0 := (Ym hrg hb hbl) 0 _ rfl;simp only [Nat.mul_one, Nat.add_zero] at d0;obtain ⟨b2, off2, l, hx1, rfl, hbl2, hrg2⟩ := r1.at_ k (by rw [H1.out]; exact hlt);have d1 := (Ym hrg2 hb hbl2) 0 _ rfl;simp only [Nat.mul_one, Nat.add_zero] at d1;have hg0 : s.ag.getD k 0 = r := U8 hx0;have hg1 : s.au.getD k 0 = l := U8 hx1;have p0 : wr.cell? ⟨w.heap.size, 0, none⟩ = some (.slice (some ⟨b, off, none⟩) 64 c0) := Zm hA 0;have p1 : wr.cell? ⟨w.heap.size, 1, none⟩ = some (.slice (some ⟨b2, off2, none⟩) 64 c1) := Zm hA 1;have hlast : Hid (Qe k r l = false → s.ok = false) := fun h => by rw [H.out]; exact Zh6 hlt (by rw [hg0, hg1]; exact h)
   have hnext : Hid (Qe k r l = true → Jk s (k + 1) = true) := fun h => by rw [ZgJ, HOK.out, hg0, hg1, h]; rfl
   have HA := Lib.hid hA;clear hx0 hx1 hg0 hg1 hrg hrg2 hA hA0 hb0
   by_cases g1 : inB l 0 900 = true
   rotate_left
   ·have g1' : inB l 0 900 = false := by simpa using g1
    have HR : Hid (Qe k r l = false) := by show _ = _; simp [Qe, g1']
    clear g1
    go_wp2_with fail
    go_quiet ((first | (go_at_call 25; exact Calls.quiet_of_same ((Ya _ _ _ _).mono fun _ _ ⟨h1, h2⟩ => ⟨h1, h2.symm⟩)) | (go_at_call 48; exact Calls.quiet_of_same ((X5 _ _).mono fun _ _ ⟨h1, h2⟩ => ⟨h1, h2.symm⟩))))
    go_wp2
    go_ret
    exact ⟨ZS (hlast.out HR.out).symm, hb.trans (ZP _ _ _)⟩
   have hl := Zs g1
   by_cases g2 : inB r 0 l = true
   rotate_left
   ·have g2' : inB r 0 l = false := by simpa using g2
    have HR : Hid (Qe k r l = false) := by show _ = _; simp [Qe, g2']
    clear g2
    go_wp2_with fail
    go_quiet ((first | (go_at_call 25; exact Calls.quiet_of_same ((Ya _ _ _ _).mono fun _ _ ⟨h1, h2⟩ => ⟨h1, h2.symm⟩)) | (go_at_call 48; exact Calls.quiet_of_same ((X5 _ _).mono fun _ _ ⟨h1, h2⟩ => ⟨h1, h2.symm⟩))))
    go_wp2
    go_ret
    exact ⟨ZS (hlast.out HR.out).symm, hb.trans (ZP _ _ _)⟩
   have hr2 := Zs g2
   by_cases g3 : r = 0
   ·subst g3
    by_cases g4 : l = 0
    ·subst g4
     cases g5 : inB (k : Int) 8 63
     ·have HR : Hid (Qe k 0 0 = true) := by show _ = _; simp [Qe, g1, g2]
      go_wp2_with fail
      go_quiet ((first | (go_at_call 25; exact Calls.quiet_of_same ((Ya _ _ _ _).mono fun _ _ ⟨h1, h2⟩ => ⟨h1, h2.symm⟩)) | (go_at_call 48; exact Calls.quiet_of_same ((X5 _ _).mono fun _ _ ⟨h1, h2⟩ => ⟨h1, h2.symm⟩))))
      go_wp2
      go_roundw
      case rel => exact ⟨k + 1, by omega, by go_num, hnext.out HR.out, hb.trans (ZP _ _ _), HA.out⟩
      case measure => simp [intOf]; omega
     ·have HR : Hid (Qe k 0 0 = true) := by show _ = _; simp [Qe, g1, g2]
      go_wp2_with fail
      go_quiet ((first | (go_at_call 25; exact Calls.quiet_of_same ((Ya _ _ _ _).mono fun _ _ ⟨h1, h2⟩ => ⟨h1, h2.symm⟩)) | (go_at_call 48; exact Calls.quiet_of_same ((X5 _ _).mono fun _ _ ⟨h1, h2⟩ => ⟨h1, h2.symm⟩))))
      go_wp2
      go_roundw
      case rel => exact ⟨k + 1, by omega, by go_num, hnext.out HR.out, hb.trans (ZP _ _ _), HA.out⟩
      case measure => simp [intOf]; omega
    ·have g4' : ((l : Int) != 0) = true := by simpa using g4
     have HR : Hid (Qe k 0 l = false) := by show _ = _; simp [Qe, g4]
     clear g4
     go_wp2_with fail
     go_quiet ((first | (go_at_call 25; exact Calls.quiet_of_same ((Ya _ _ _ _).mono fun _ _ ⟨h1, h2⟩ => ⟨h1, h2.symm⟩)) | (go_at_call 48; exact Calls.quiet_of_same ((X5 _ _).mono fun _ _ ⟨h1, h2⟩ => ⟨h1, h2.symm⟩))))
     go_wp2
     go_ret
     exact ⟨ZS (hlast.out HR.out).symm, hb.trans (ZP _ _ _)⟩
   ·have g3' : ((r : Int) == 0) = false := by simpa using g3
    have g6 : 0 < r := by omega
    cases g5 : inB (k : Int) 8 63
    ·have HR : Hid (Qe k r l = false) := by show _ = _; simp [Qe, g5]; omega
     clear g3
     go_wp2_with fail
     go_quiet ((first | (go_at_call 25; exact Calls.quiet_of_same ((Ya _ _ _ _).mono fun _ _ ⟨h1, h2⟩ => ⟨h1, h2.symm⟩)) | (go_at_call 48; exact Calls.quiet_of_same ((X5 _ _).mono fun _ _ ⟨h1, h2⟩ => ⟨h1, h2.symm⟩))))
     go_wp2
     go_ret
     exact ⟨ZS (hlast.out HR.out).symm, hb.trans (ZP _ _ _)⟩
    ·have HR : Hid (Qe k r l = true) := by show _ = _; simp [Qe, g1, g2, g5, g3]
     clear g3
     go_wp2_with fail
     go_quiet ((first | (go_at_call 25; exact Calls.quiet_of_same ((Ya _ _ _ _).mono fun _ _ ⟨h1, h2⟩ => ⟨h1, h2.symm⟩)) | (go_at_call 48; exact Calls.quiet_of_same ((X5 _ _).mono fun _ _ ⟨h1, h2⟩ => ⟨h1, h2.symm⟩))))
     go_wp2
     go_roundw
     case rel => exact ⟨k + 1, by omega, by go_num, hnext.out HR.out, hb.trans (ZP _ _ _), HA.out⟩
     case measure => simp [intOf]; omega
  ·have hk' : k = 64 := by omega
   subst hk'
   go_wp2
   go_ret
   exact ⟨ZS (by rw [H.out, HOK.out]), hb⟩
def ZfV (i : Nat) (r l : Int) : Bool := inB r 0 900 && (inB l r 900 && ((r != 0 || l == 0) && (decide (r ≤ 0) || !decide ((i : Int) < 8))))
theorem ZeT {i : Nat} {r l : Int} (hi : i < 64 := by omega) : Qe i r l = ZfV i r l := by
 unfold Qe ZfV inB;rw [Bool.eq_iff_iff]
 simp
 omega
structure Za where
  ac : List ByteArray
  aa : Zq
  av : Int
  ak : List PtrD
  ax : Int
  ar : List PtrD
  aA : Bool
abbrev sL (a0 : Option Addr) (c0 : Nat) (a1 : Option Addr) (c1 : Nat) (a2 : Option Addr) (c2 : Nat) (a4 : Option Addr) (c4 : Nat) (a6 : Option Addr) (c6 : Nat) (st : Za) : List Value := [.slice a0 st.ac.length c0, .slice a1 st.aa.ag.length c1, .slice a2 st.aa.au.length c2, .int .i64 st.av, .slice a4 st.ak.length c4, .int .i64 st.ax, .slice a6 st.ar.length c6, .bool st.aA]
abbrev sV (a0 : Option Addr) (c0 : Nat) (a1 : Option Addr) (c1 : Nat) (a2 : Option Addr) (c2 : Nat) (a4 : Option Addr) (c4 : Nat) (a6 : Option Addr) (c6 : Nat) (st : Za) : Value := .agg #[.slice a0 st.ac.length c0, .slice a1 st.aa.ag.length c1, .slice a2 st.aa.au.length c2, .int .i64 st.av, .slice a4 st.ak.length c4, .int .i64 st.ax, .slice a6 st.ar.length c6, .bool st.aA]
def Za.Reads (w : World) (v : Value) (x : Za) : Prop := ∃ (a0 : Option Addr) (c0 : Nat) (a1 : Option Addr) (c1 : Nat) (a2 : Option Addr) (c2 : Nat) (a4 : Option Addr) (c4 : Nat) (a6 : Option Addr) (c6 : Nat), v = .agg #[.slice a0 x.ac.length c0, .slice a1 x.aa.ag.length c1, .slice a2 x.aa.au.length c2, .int .i64 x.av, .slice a4 x.ak.length c4, .int .i64 x.ax, .slice a6 x.ar.length c6, .bool x.aA] ∧ Rd Zu 1 w a0 x.ac.length x.ac ∧ Rd ZG 1 w a1 x.aa.ag.length x.aa.ag ∧ Rd ZG 1 w a2 x.aa.au.length x.aa.au ∧ Rd PtrD.cells 5 w a4 x.ak.length x.ak ∧ Rd PtrD.cells 5 w a6 x.ar.length x.ar
structure Za.Fit (x : Za) : Prop where
  f0 : x.ac.length ≤ 1048576
  f1 : x.aa.ag.length ≤ 1048576
  f2 : x.aa.au.length ≤ 1048576
  f4 : x.ak.length ≤ 1048576
  f6 : x.ar.length ≤ 1048576
def cnt (ps : List PtrD) (i : Nat) : Nat := (ps.filter fun p => p.aC == (i : Int)).length
theorem VC (ps : List PtrD) (p : PtrD) (i : Nat) : cnt (ps ++ [p]) i = cnt ps i + if p.aC = (i : Int) then 1 else 0 := by
 unfold cnt;rw [List.filter_append, List.length_append]
 by_cases h : p.aC = (i : Int) <;> simp [h]
theorem Zk6 (ps : List PtrD) (i : Nat) : cnt ps i ≤ ps.length := List.length_filter_le _ _
theorem Zj (a b : List PtrD) (i : Nat) : cnt (a ++ b) i = cnt a i + cnt b i := by simp [cnt, List.filter_append]
theorem Zk7 (ps : List PtrD) (k i : Nat) : cnt (ps.take k) i ≤ cnt ps i := by
 have h := Zj (ps.take k) (ps.drop k) i;rw [List.take_append_drop] at h; omega
def XU (ps : List PtrD) : List Value := (List.range 64).map fun i => .int .i64 (cnt ps i : Nat)
theorem Jt (ps : List PtrD) : (XU ps).length = 64 := by simp [XU]
theorem QF (ps : List PtrD) (i : Nat) (h : i < 64) : (XU ps)[i]? = some (.int .i64 (cnt ps i : Nat)) := by simp [XU, h]
theorem ZaB (ps : List PtrD) (p : PtrD) (a : Nat) (ha : p.aC = (a : Int)) (h : a < 64) : (XU ps).set a (.int .i64 ((cnt ps a : Nat) + 1)) = XU (ps ++ [p]) := by
 apply List.ext_getElem?
 intro i
 by_cases hi : i < 64
 ·rw [QF _ _ hi, VC, List.getElem?_set]
  by_cases hai : a = i
  ·subst hai
   simp [Jt, h, ha]
  ·rw [if_neg hai, QF _ _ hi, if_neg (by rw [ha]; omega)]
   simp
 ·rw [List.getElem?_eq_none (by rw [List.length_set, Jt]; omega), List.getElem?_eq_none (by rw [Jt]; omega)]
def YH (p : PtrD) (most : Int) : Bool := p.ok && (!p.hole && decide (p.al ≤ most))
def QG (st : Za) (i : Nat) : Bool := decide ((st.ac.getD i ByteArray.empty).size ≤ 128) && (((st.ac.getD i ByteArray.empty).size == 0) == (st.aa.ag.getD i 0 == 0) && decide (st.aa.au.getD i 0 ≤ st.av))
def QH (st : Za) (k : Nat) : Bool := (List.range k).all fun i => QG st i
theorem ZgK (st : Za) (k : Nat) : QH st (k + 1) = (QH st k && QG st k) := by simp [QH, List.range_succ]
theorem Zae {st : Za} {k m : Nat} (h : QH st m = true) (hk : k < m) : QG st k = true := by
 simp only [QH, List.all_eq_true] at h;exact h k (List.mem_range.2 hk)
theorem Zh7 {st : Za} {k m : Nat} (hk : k < m) (h : QG st k = false) : QH st m = false := by
 cases hm : QH st m with
 | false => rfl
 | true => rw [Zae hm hk] at h; cases h
def VD (refs : List Int) (ps : List PtrD) : Bool := (List.range 64).all fun i => decide ((cnt ps i : Int) ≤ refs.getD i 0)
def Za.ok (st : Za) : Bool :=
 st.ac.length == 64 && (st.aa.ok && (inB st.av 1 900 && (inB st.ax 0 (st.av - 1) && (QH st 64 &&
  (st.ak.all (fun p => YH p (st.av - 1)) && (st.ar.all (fun p => YH p st.ax) && VD st.aa.ag (st.ak ++ st.ar)))))))
def Vt (st : Za) (j : Nat) : Option PtrD := (st.ak ++ st.ar)[j]?
def JI (st : Za) (j : Nat) : Int := if j < st.ak.length then st.av - 1 else st.ax
structure Vu (st : Za) (j : Nat) : Prop where
  each : ∀ i p, i < j → Vt st i = some p → YH p (JI st i) = true
  few : ∀ i, i < 64 → 0 < cnt ((st.ak ++ st.ar).take j) i → (cnt ((st.ak ++ st.ar).take j) i : Int) ≤ st.aa.ag.getD i 0
theorem Vu.zero (st : Za) : Vu st 0 := ⟨fun i p h => absurd h (Nat.not_lt_zero _), fun i hi h => by simp [cnt] at h⟩
theorem Zbn {p : PtrD} {m : Int} (h : YH p m = true) : 8 ≤ p.aC ∧ p.aC ≤ 63 ∧ p.al ≤ m ∧ 1 ≤ p.al ∧ p.al ≤ 900 := by
 simp only [YH, PtrD.ok, Bool.and_eq_true, Bool.or_eq_true, Bool.not_eq_true', decide_eq_true_eq] at h;obtain ⟨h1, h2, h3⟩ := h;rw [h2] at h1;rcases h1 with h1 | h1
 ·cases h1
 ·obtain ⟨⟨⟨⟨a, b⟩, _⟩, _⟩, _⟩ := h1
  have := Zs a;have := Zs b
  omega
theorem Vu.succ {st : Za} {j : Nat} (h : Vu st j) {p : PtrD} (hp : Vt st j = some p) (hin : YH p (JI st j) = true) (a : Nat) (ha : p.aC = (a : Int)) (hle : ((cnt ((st.ak ++ st.ar).take j) a + 1 : Nat) : Int) ≤ st.aa.ag.getD a 0) : Vu st (j + 1) := by
 obtain ⟨hj, hpe⟩ := List.getElem?_eq_some_iff.1 hp;have hs : (st.ak ++ st.ar).take (j + 1) = (st.ak ++ st.ar).take j ++ [p] := by rw [List.take_succ_eq_append_getElem hj, hpe]
 refine ⟨fun i q hi hq => ?_, fun i hi hc => ?_⟩
 ·by_cases hij : i = j
  ·subst hij
   obtain rfl := Option.some.inj (hp.symm.trans hq);exact hin
  ·exact h.each i q (by omega) hq
 ·rw [hs, VC] at hc ⊢
  by_cases hai : p.aC = (i : Int)
  ·have : a = i := by omega
   subst this;rw [if_pos hai];exact hle
  ·rw [if_neg hai] at hc ⊢
   exact h.few i hi hc
theorem Vu.all {st : Za} (h : Vu st (st.ak ++ st.ar).length) (hr : ∀ i, i < 64 → 0 ≤ st.aa.ag.getD i 0) :
  (st.ak.all (fun p => YH p (st.av - 1)) && (st.ar.all (fun p => YH p st.ax) && VD st.aa.ag (st.ak ++ st.ar))) = true := by
 rw [Bool.and_eq_true, Bool.and_eq_true];refine ⟨List.all_eq_true.2 fun p hp => ?_, List.all_eq_true.2 fun p hp => ?_, List.all_eq_true.2 fun i hi => ?_⟩
 ·obtain ⟨i, hi, hpe⟩ := List.mem_iff_getElem.1 hp
  have := h.each i p (by rw [List.length_append]; omega) (by unfold Vt; rw [List.getElem?_append_left hi, List.getElem?_eq_getElem hi, hpe])
  rwa [JI, if_pos hi] at this
 ·obtain ⟨i, hi, hpe⟩ := List.mem_iff_getElem.1 hp
  have := h.each (st.ak.length + i) p (by rw [List.length_append]; omega) (by unfold Vt; rw [List.getElem?_append_right (by omega), Nat.add_sub_cancel_left, List.getElem?_eq_getElem hi, hpe])
  rwa [JI, if_neg (by omega)] at this
 ·have hi' := List.mem_range.1 hi
  simp only [decide_eq_true_eq]
  by_cases hc : 0 < cnt (st.ak ++ st.ar) i
  ·have := h.few i hi' (by rw [List.take_of_length_le (Nat.le_refl _)]; exact hc)
   rwa [List.take_of_length_le (Nat.le_refl _)] at this
  ·have := hr i hi'
   omega
theorem ZeU {st : Za} {j : Nat} {p : PtrD} (hp : Vt st j = some p) (hin : YH p (JI st j) = false) : st.ok = false := by
 obtain ⟨hj, hpe⟩ := List.getElem?_eq_some_iff.1 hp;unfold Za.ok
 by_cases hg : j < st.ak.length
 ·have hm : p ∈ st.ak := by rw [← hpe, List.getElem_append_left hg]; exact List.getElem_mem _
  have : st.ak.all (fun p => YH p (st.av - 1)) = false := by
   rw [List.all_eq_false];exact ⟨p, hm, by rw [JI, if_pos hg] at hin; simp [hin]⟩
  simp [this]
 ·have hlt : j - st.ak.length < st.ar.length := by rw [List.length_append] at hj; omega
  have hm : p ∈ st.ar := by rw [← hpe, List.getElem_append_right (by omega)]; exact List.getElem_mem _
  have : st.ar.all (fun p => YH p st.ax) = false := by
   rw [List.all_eq_false];exact ⟨p, hm, by rw [JI, if_neg hg] at hin; simp [hin]⟩
  simp [this]
theorem Zdv {st : Za} {j : Nat} {p : PtrD} (hp : Vt st j = some p) (a : Nat) (ha : p.aC = (a : Int)) (h64 : a < 64) (hlt : st.aa.ag.getD a 0 < ((cnt ((st.ak ++ st.ar).take j) a + 1 : Nat) : Int)) : st.ok = false := by
 obtain ⟨hj, hpe⟩ := List.getElem?_eq_some_iff.1 hp;have hs : (st.ak ++ st.ar).take (j + 1) = (st.ak ++ st.ar).take j ++ [p] := by rw [List.take_succ_eq_append_getElem hj, hpe]
 have h1 := Zk7 (st.ak ++ st.ar) (j + 1) a;rw [hs, VC, if_pos ha] at h1;have : VD st.aa.ag (st.ak ++ st.ar) = false := by
  unfold VD;rw [List.all_eq_false];exact ⟨a, List.mem_range.2 h64, by simp only [decide_eq_true_eq]; omega⟩
 unfold Za.ok;simp [this]
structure ZfW (st : Za) : Prop where
  rows : st.ac.length = 64
  space : st.aa.ok = true
  txg : 1 ≤ st.av ∧ st.av ≤ 900
  keep : 0 ≤ st.ax ∧ st.ax ≤ st.av - 1
  each : QH st 64 = true
  gone : st.ak.all (fun p => YH p (st.av - 1)) = true
  dead : st.ar.all (fun p => YH p st.ax) = true
  owed : VD st.aa.ag (st.ak ++ st.ar) = true
theorem Za.ok_spec {st : Za} (h : st.ok = true) : ZfW st := by
 simp only [Za.ok, Bool.and_eq_true, beq_iff_eq] at h;obtain ⟨h1, h2, h3, h4, h5, h6, h7, h8⟩ := h;exact ⟨h1, h2, Zs h3, Zs h4, h5, h6, h7, h8⟩
structure Zh8 (s : Zq) : Prop where
  refs : s.ag.length = 64
  last : s.au.length = 64
  each : ∀ i, i < 64 → 0 ≤ s.ag.getD i 0 ∧ s.ag.getD i 0 ≤ s.au.getD i 0 ∧ s.au.getD i 0 ≤ 900 ∧ (s.ag.getD i 0 = 0 → s.au.getD i 0 = 0) ∧ (i < 8 → s.ag.getD i 0 = 0)
theorem Zq.ok_spec {s : Zq} (h : s.ok = true) : Zh8 s := by
 simp only [Zq.ok, Bool.and_eq_true, beq_iff_eq] at h;obtain ⟨⟨h1, h2⟩, h3⟩ := h;refine ⟨h1, h2, fun i hi => ?_⟩;have h4 := ZeS h3 hi;rw [ZeT hi] at h4;simp only [ZfV, Bool.and_eq_true, Bool.or_eq_true, decide_eq_true_eq, bne_iff_ne, beq_iff_eq, Bool.not_eq_true', decide_eq_false_iff_not] at h4;obtain ⟨h5, h6, h7, h8⟩ := h4;have := Zs h5;have := Zs h6;refine ⟨by omega, by omega, by omega, fun h0 => ?_, fun h0 => ?_⟩
 ·rcases h7 with h7 | h7
  ·exact absurd h0 h7
  ·exact h7
 ·rcases h8 with h8 | h8
  ·omega
  ·omega
theorem ZjU (ps : List PtrD) : (madeCells (Value.int .i64 0).cells (64 * 1)).toList = XU (ps.take 0) := by
 show (madeCells #[Value.int .i64 0] 64).toList = _;rw [toList_madeCells_one]
 apply List.ext_getElem?
 intro i
 by_cases hi : i < 64
 ·rw [QF _ _ hi, List.getElem?_replicate, if_pos hi]; simp [cnt]
 ·rw [List.getElem?_eq_none (by rw [List.length_replicate]; omega), List.getElem?_eq_none (by rw [Jt]; omega)]
end Go.Proofs.YtfhdmfcfcgbgeaaGreatDoor
