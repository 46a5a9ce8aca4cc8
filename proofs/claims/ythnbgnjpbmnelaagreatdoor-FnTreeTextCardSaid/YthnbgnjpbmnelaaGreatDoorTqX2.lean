/- A part of the proof in YthnbgnjpbmnelaaGreatDoorTqX34. -/
import Derived.BigQuiet
import Derived.Deep.QuietTactic
import Derived.Deep.RegionWith
import Derived.StillTailTactics
import Derived.Test.YthnbgnjpbmnelaaGreatDoorRows
import Derived.Test.YthnbgnjpbmnelaaGreatDoorTqX1
namespace Go.Proofs.YthnbgnjpbmnelaaGreatDoor
open Go.Proofs.Tryz
set_option linter.unusedVariables false
set_option linter.unusedSimpArgs false
set_option maxHeartbeats 1000000
set_option maxRecDepth 100000
open Go.RowKit
structure PtrD where
  aB : Int
  aj : Int
  av : Int
  aC : Int
  aq : Int
abbrev pL (p : PtrD) : List Value := [.int .i64 p.aB, .int .i64 p.aj, .int .i64 p.av, .int .i64 p.aC, .int .i64 p.aq]
abbrev pV (p : PtrD) : Value := .agg #[.int .i64 p.aB, .int .i64 p.aj, .int .i64 p.av, .int .i64 p.aC, .int .i64 p.aq]
def PtrD.cells (x : PtrD) : List Value := [.int .i64 x.aB, .int .i64 x.aj, .int .i64 x.av, .int .i64 x.aC, .int .i64 x.aq]
theorem PtrD.cells_len (x : PtrD) : x.cells.length = 5 := rfl
theorem PtrD.at_ {w : World} {b o : Nat} {x : PtrD} (h : w.rangeAt b o x.cells) :
  w.cell? ⟨b, o, none⟩ = some (.int .i64 x.aB) ∧ w.cell? ⟨b, o + 1, none⟩ = some (.int .i64 x.aj) ∧ w.cell? ⟨b, o + 2, none⟩ = some (.int .i64 x.av) ∧ w.cell? ⟨b, o + 3, none⟩ = some (.int .i64 x.aC) ∧ w.cell? ⟨b, o + 4, none⟩ = some (.int .i64 x.aq) :=
 ⟨h 0 _ rfl, h 1 _ rfl, h 2 _ rfl, h 3 _ rfl, h 4 _ rfl⟩
def inB (n lo hi : Int) : Bool := decide (lo ≤ n) && decide (n ≤ hi)
theorem Zu {n lo hi : Int} (h : inB n lo hi = true) : lo ≤ n ∧ n ≤ hi := by simpa [inB] using h
theorem XF {n lo hi : Int} (h : lo ≤ n) (k : n ≤ hi) : inB n lo hi = true := by simp [inB, h, k]
theorem Z2 (a b c : Int) (w : World) :
  Calls prog 34 #[.int .i64 a, .int .i64 b, .int .i64 c] w fun e w' => e = .returned (.bool (inB a b c)) ∧ w = w' := by
 by_cases h1 : b ≤ a
 ·have H : Hid (inB a b c = decide (a ≤ c)) := by show _ = _; simp [inB, h1]
  go_enter func34, ntmps34
  go_wp2
  all_goals (go_ret; exact ⟨ZO H.out.symm, rfl⟩)
 ·have H : Hid (inB a b c = false) := by show _ = _; simp [inB, h1]
  go_enter func34, ntmps34
  go_wp2
  all_goals (go_ret; exact ⟨ZO H.out.symm, rfl⟩)
theorem ZaA (a b c : Int) (w : World) :
  Calls prog 44 #[.int .i64 a, .int .i64 b, .int .i64 c] w fun e w' => e = .returned (.bool (inB a b c)) ∧ w = w' := by
 by_cases h1 : b ≤ a
 ·have H : Hid (inB a b c = decide (a ≤ c)) := by show _ = _; simp [inB, h1]
  go_enter func44, ntmps44
  go_wp2
  all_goals (go_ret; exact ⟨ZO H.out.symm, rfl⟩)
 ·have H : Hid (inB a b c = false) := by show _ = _; simp [inB, h1]
  go_enter func44, ntmps44
  go_wp2
  all_goals (go_ret; exact ⟨ZO H.out.symm, rfl⟩)
theorem XP (a : Int) (w : World) :
  Calls prog 168 #[.int .i64 a] w fun e w' => e = .returned (.bool (inB a 8 63)) ∧ w = w' := by
 go_enter func168, ntmps168
 go_wp2_with fail
 refine (Z2 _ _ _ _).mono ?_;rintro e w' ⟨rfl, rfl⟩
 go_wp2
 go_ret
 exact ⟨rfl, rfl⟩
theorem ZjL (a : Int) (w : World) :
  Calls prog 160 #[.int .i64 a] w fun e w' => e = .returned (.bool (inB a 8 63)) ∧ w = w' := by
 go_enter func160, ntmps160
 go_wp2_with fail
 refine (ZaA _ _ _ _).mono ?_;rintro e w' ⟨rfl, rfl⟩
 go_wp2
 go_ret
 exact ⟨rfl, rfl⟩
def PtrD.hole (p : PtrD) : Bool := p.aB == 0 && p.aj == 0 && p.av == 0 && p.aC == 0 && p.aq == 0
def PtrD.ok (p : PtrD) : Bool := p.hole || inB p.aB 8 63 && inB p.aj 1 900 && inB p.av 1 128 && inB p.aC 0 99460728 && inB p.aq 0 2
theorem Zy (p : PtrD) (w : World) :
  Calls prog 100 #[.agg #[.int .i64 p.aB, .int .i64 p.aj, .int .i64 p.av, .int .i64 p.aC, .int .i64 p.aq]] w fun e w' => e = .returned (.bool p.hole) ∧ Below w.heap.size w w' := by
 go_enter func100, ntmps100
 go_wp2
 all_goals
  go_ret
  refine ⟨ZO ?_, (Below.refl _ _).alloc (Nat.le_refl _) _⟩;unfold PtrD.hole;simp [*]
theorem Za8 (p : PtrD) (w : World) :
  Calls prog 90 #[.agg #[.int .i64 p.aB, .int .i64 p.aj, .int .i64 p.av, .int .i64 p.aC, .int .i64 p.aq]] w fun e w' => e = .returned (.bool p.hole) ∧ Below w.heap.size w w' := by
 go_enter func90, ntmps90
 go_wp2
 all_goals
  go_ret
  refine ⟨ZO ?_, (Below.refl _ _).alloc (Nat.le_refl _) _⟩;unfold PtrD.hole;simp [*]
theorem ZN (p : PtrD) (w : World) :
  Calls prog 99 #[.agg #[.int .i64 p.aB, .int .i64 p.aj, .int .i64 p.av, .int .i64 p.aC, .int .i64 p.aq]] w fun e w' => e = .returned (.bool p.ok) ∧ Below w.heap.size w w' := by
 go_enter func99, ntmps99
 go_wp2_with (first | (go_at_call 100; refine (Zy p _).mono ?_; rintro e w1 ⟨rfl, hb1⟩; obtain ⟨hc1, _⟩ := Zog hb1) | (go_at_call 168; refine (XP _ _).mono ?_; rintro e w' ⟨rfl, rfl⟩) | (go_at_call 34; refine (Z2 _ _ _ _).mono ?_; rintro e w' ⟨rfl, rfl⟩))
 all_goals
  go_ret
  refine ⟨ZO ?_, ((Below.refl _ _).alloc (Nat.le_refl _) _).trans (hb1.mono (by simp))⟩;unfold PtrD.ok;simp [*]
theorem Zez (p : PtrD) (w : World) :
  Calls prog 89 #[.agg #[.int .i64 p.aB, .int .i64 p.aj, .int .i64 p.av, .int .i64 p.aC, .int .i64 p.aq]] w fun e w' => e = .returned (.bool p.ok) ∧ Below w.heap.size w w' := by
 go_enter func89, ntmps89
 go_wp2_with (first | (go_at_call 90; refine (Za8 p _).mono ?_; rintro e w1 ⟨rfl, hb1⟩; obtain ⟨hc1, _⟩ := Zog hb1) | (go_at_call 160; refine (ZjL _ _).mono ?_; rintro e w' ⟨rfl, rfl⟩) | (go_at_call 44; refine (ZaA _ _ _ _).mono ?_; rintro e w' ⟨rfl, rfl⟩))
 all_goals
  go_ret
  refine ⟨ZO ?_, ((Below.refl _ _).alloc (Nat.le_refl _) _).trans (hb1.mono (by simp))⟩;unfold PtrD.ok;simp [*]
theorem Tryz.infoIntS : (Tryz.prog.info? 3).map (fun i => (i.zero, i.size, i.bytes)) = some (some (.int .i64 0), 1, 8) := by kernel_rfl
theorem Tryz.infoStringS : (Tryz.prog.info? 9).map (fun i => (i.zero, i.size, i.bytes)) = some (some (.string ByteArray.empty), 1, 16) := by kernel_rfl
structure Zq where
  ag : List Int
  am : List Int
def Zq.Reads (w : World) (v : Value) (x : Zq) : Prop := ∃ (a0 : Option Addr) (c0 : Nat) (a1 : Option Addr) (c1 : Nat), v = .agg #[.slice a0 x.ag.length c0, .slice a1 x.am.length c1] ∧ Rd ZH 1 w a0 x.ag.length x.ag ∧ Rd ZH 1 w a1 x.am.length x.am
structure Zq.Fit (x : Zq) : Prop where
  f0 : x.ag.length ≤ 1048576
  f1 : x.am.length ≤ 1048576
def XZ (i : Nat) (r l : Int) : Bool := inB l 0 900 && (inB r 0 l && ((r != 0 || l == 0) && (inB i 8 63 || decide (r ≤ 0))))
def Q6 (s : Zq) (k : Nat) : Bool := (List.range k).all fun i => XZ i (s.ag.getD i 0) (s.am.getD i 0)
theorem ZgC (s : Zq) (k : Nat) : Q6 s (k + 1) = (Q6 s k && XZ k (s.ag.getD k 0) (s.am.getD k 0)) := by
 simp [Q6, List.range_succ]
theorem ZeK {s : Zq} {k m : Nat} (h : Q6 s m = true) (hk : k < m) : XZ k (s.ag.getD k 0) (s.am.getD k 0) = true := by
 simp only [Q6, List.all_eq_true] at h;exact h k (List.mem_range.2 hk)
theorem Zh2 {s : Zq} {k m : Nat} (hk : k < m) (h : XZ k (s.ag.getD k 0) (s.am.getD k 0) = false) : Q6 s m = false := by
 cases hm : Q6 s m with
 | false => rfl
 | true => rw [ZeK hm hk] at h; cases h
def Zq.ok (s : Zq) : Bool := s.ag.length == 64 && s.am.length == 64 && Q6 s 64
theorem UU {α : Type} {xs : List α} {k : Nat} {x d : α} (h : xs[k]? = some x) : xs.getD k d = x := by simp [List.getD, h]
theorem Vd (v : Value) (s : Zq) (w : World) (hr : Zq.Reads w v s) (hf : s.Fit) :
  Calls prog 163 #[v] w fun e w' => e = .returned (.bool s.ok) ∧ Below w.heap.size w w' := by
 obtain ⟨a0, c0, a1, c1, rfl, r0, r1⟩ := hr;have hf0 := hf.f0;have hf1 := hf.f1;have hb0 : Below w.heap.size w (w.alloc (.cells #[.slice a0 s.ag.length c0, .slice a1 s.am.length c1] 36)) := (Below.refl _ _).alloc (Nat.le_refl _) _;have hA0 := XA w (.cells #[.slice a0 s.ag.length c0, .slice a1 s.am.length c1] 36) _ rfl
 by_cases h0 : s.ag.length = 64
 rotate_left
 ·have H : Hid (s.ok = false) := by show _ = _; simp [Zq.ok, h0]
  go_enter func163, ntmps163
  go_wp2
  go_ret
  exact ⟨ZO H.out.symm, hb0⟩
 have H0 := Lib.hid h0;have hl0 := h0;rw [h0] at r0 hb0 hA0 ⊢;clear h0
 by_cases h1 : s.am.length = 64
 rotate_left
 ·have H : Hid (s.ok = false) := by show _ = _; simp [Zq.ok, h1]
  go_enter func163, ntmps163
  go_wp2
  go_ret
  exact ⟨ZO H.out.symm, hb0⟩
 have H : Hid (s.ok = Q6 s 64) := by show _ = _; simp [Zq.ok, hl0, h1]
 rw [h1] at r1 hb0 hA0 ⊢;have H1 := Lib.hid h1;clear h1 hl0 hf0 hf1 hf
 go_enter func163, ntmps163
 go_wp2
 go_loopw [3] (fun i wr => ∃ k : Nat, k ≤ 64 ∧ i = .int .i64 k ∧ Q6 s k = true ∧ Below w.heap.size w wr ∧ wr.heap[w.heap.size]? = some (.cells #[.slice a0 64 c0, .slice a1 64 c1] 36 (0, 0))) (fun i _ => 64 - (intOf i).toNat)
 case atStart => exact ⟨0, by omega, rfl, rfl, hb0, hA0⟩
 case round =>
  obtain ⟨k, hk, rfl, hok, hb, hA⟩ := hrel;have HOK := Lib.hid hok;clear hok
  by_cases hlt : k < 64
  ·obtain ⟨b, off, r, hx0, rfl, hbl, hrg⟩ := r0.at_ k (by rw [H0.out]; exact hlt)
   have d0 := (Ye hrg hb hbl) 0 _ rfl;simp only [Nat.mul_one, Nat.add_zero] at d0;obtain ⟨b2, off2, l, hx1, rfl, hbl2, hrg2⟩ := r1.at_ k (by rw [H1.out]; exact hlt);have d1 := (Ye hrg2 hb hbl2) 0 _ rfl;simp only [Nat.mul_one, Nat.add_zero] at d1;have hg0 : s.ag.getD k 0 = r := UU hx0;have hg1 : s.am.getD k 0 = l := UU hx1;have p0 : wr.cell? ⟨w.heap.size, 0, none⟩ = some (.slice (some ⟨b, off, none⟩) 64 c0) := Zl hA 0;have p1 : wr.cell? ⟨w.heap.size, 1, none⟩ = some (.slice (some ⟨b2, off2, none⟩) 64 c1) := Zl hA 1;have hlast : Hid (XZ k r l = false → s.ok = false) := fun h => by rw [H.out]; exact Zh2 hlt (by rw [hg0, hg1]; exact h)
   have hnext : Hid (XZ k r l = true → Q6 s (k + 1) = true) := fun h => by rw [ZgC, HOK.out, hg0, hg1, h]; rfl
   have HA := Lib.hid hA;clear hx0 hx1 hg0 hg1 hrg hrg2 hA hA0 hb0
   by_cases g1 : inB l 0 900 = true
   rotate_left
   ·have g1' : inB l 0 900 = false := by simpa using g1
    have HR : Hid (XZ k r l = false) := by show _ = _; simp [XZ, g1']
    clear g1
    go_wp2_with fail
    go_quiet ((first | (go_at_call 34; exact Calls.quiet_of_same ((Z2 _ _ _ _).mono fun _ _ ⟨h1, h2⟩ => ⟨h1, h2.symm⟩)) | (go_at_call 168; exact Calls.quiet_of_same ((XP _ _).mono fun _ _ ⟨h1, h2⟩ => ⟨h1, h2.symm⟩))))
    go_wp2
    go_ret
    exact ⟨ZO (hlast.out HR.out).symm, hb.trans (ZK _ _ _)⟩
   have hl := Zu g1
   by_cases g2 : inB r 0 l = true
   rotate_left
   ·have g2' : inB r 0 l = false := by simpa using g2
    have HR : Hid (XZ k r l = false) := by show _ = _; simp [XZ, g2']
    clear g2
    go_wp2_with fail
    go_quiet ((first | (go_at_call 34; exact Calls.quiet_of_same ((Z2 _ _ _ _).mono fun _ _ ⟨h1, h2⟩ => ⟨h1, h2.symm⟩)) | (go_at_call 168; exact Calls.quiet_of_same ((XP _ _).mono fun _ _ ⟨h1, h2⟩ => ⟨h1, h2.symm⟩))))
    go_wp2
    go_ret
    exact ⟨ZO (hlast.out HR.out).symm, hb.trans (ZK _ _ _)⟩
   have hr2 := Zu g2
   by_cases g3 : r = 0
   ·subst g3
    by_cases g4 : l = 0
    ·subst g4
     cases g5 : inB (k : Int) 8 63
     ·have HR : Hid (XZ k 0 0 = true) := by show _ = _; simp [XZ, g1, g2]
      go_wp2_with fail
      go_quiet ((first | (go_at_call 34; exact Calls.quiet_of_same ((Z2 _ _ _ _).mono fun _ _ ⟨h1, h2⟩ => ⟨h1, h2.symm⟩)) | (go_at_call 168; exact Calls.quiet_of_same ((XP _ _).mono fun _ _ ⟨h1, h2⟩ => ⟨h1, h2.symm⟩))))
      go_wp2
      go_roundw
      case rel => exact ⟨k + 1, by omega, by go_num, hnext.out HR.out, hb.trans (ZK _ _ _), HA.out⟩
      case measure => simp [intOf]; omega
     ·have HR : Hid (XZ k 0 0 = true) := by show _ = _; simp [XZ, g1, g2]
      go_wp2_with fail
      go_quiet ((first | (go_at_call 34; exact Calls.quiet_of_same ((Z2 _ _ _ _).mono fun _ _ ⟨h1, h2⟩ => ⟨h1, h2.symm⟩)) | (go_at_call 168; exact Calls.quiet_of_same ((XP _ _).mono fun _ _ ⟨h1, h2⟩ => ⟨h1, h2.symm⟩))))
      go_wp2
      go_roundw
      case rel => exact ⟨k + 1, by omega, by go_num, hnext.out HR.out, hb.trans (ZK _ _ _), HA.out⟩
      case measure => simp [intOf]; omega
    ·have g4' : ((l : Int) != 0) = true := by simpa using g4
     have HR : Hid (XZ k 0 l = false) := by show _ = _; simp [XZ, g4]
     clear g4
     go_wp2_with fail
     go_quiet ((first | (go_at_call 34; exact Calls.quiet_of_same ((Z2 _ _ _ _).mono fun _ _ ⟨h1, h2⟩ => ⟨h1, h2.symm⟩)) | (go_at_call 168; exact Calls.quiet_of_same ((XP _ _).mono fun _ _ ⟨h1, h2⟩ => ⟨h1, h2.symm⟩))))
     go_wp2
     go_ret
     exact ⟨ZO (hlast.out HR.out).symm, hb.trans (ZK _ _ _)⟩
   ·have g3' : ((r : Int) == 0) = false := by simpa using g3
    have g6 : 0 < r := by omega
    cases g5 : inB (k : Int) 8 63
    ·have HR : Hid (XZ k r l = false) := by show _ = _; simp [XZ, g5]; omega
     clear g3
     go_wp2_with fail
     go_quiet ((first | (go_at_call 34; exact Calls.quiet_of_same ((Z2 _ _ _ _).mono fun _ _ ⟨h1, h2⟩ => ⟨h1, h2.symm⟩)) | (go_at_call 168; exact Calls.quiet_of_same ((XP _ _).mono fun _ _ ⟨h1, h2⟩ => ⟨h1, h2.symm⟩))))
     go_wp2
     go_ret
     exact ⟨ZO (hlast.out HR.out).symm, hb.trans (ZK _ _ _)⟩
    ·have HR : Hid (XZ k r l = true) := by show _ = _; simp [XZ, g1, g2, g5, g3]
     clear g3
     go_wp2_with fail
     go_quiet ((first | (go_at_call 34; exact Calls.quiet_of_same ((Z2 _ _ _ _).mono fun _ _ ⟨h1, h2⟩ => ⟨h1, h2.symm⟩)) | (go_at_call 168; exact Calls.quiet_of_same ((XP _ _).mono fun _ _ ⟨h1, h2⟩ => ⟨h1, h2.symm⟩))))
     go_wp2
     go_roundw
     case rel => exact ⟨k + 1, by omega, by go_num, hnext.out HR.out, hb.trans (ZK _ _ _), HA.out⟩
     case measure => simp [intOf]; omega
  ·have hk' : k = 64 := by omega
   subst hk'
   go_wp2
   go_ret
   exact ⟨ZO (by rw [H.out, HOK.out]), hb⟩
def ZfK (i : Nat) (r l : Int) : Bool := inB r 0 900 && (inB l r 900 && ((r != 0 || l == 0) && (decide (r ≤ 0) || !decide ((i : Int) < 8))))
theorem ZeL {i : Nat} {r l : Int} (hi : i < 64 := by omega) : XZ i r l = ZfK i r l := by
 unfold XZ ZfK inB;rw [Bool.eq_iff_iff]
 simp
 omega
structure Za where
  ac : List ByteArray
  aa : Zq
  ar : Int
  ai : List PtrD
  ax : Int
  al : List PtrD
  az : Bool
abbrev sL (a0 : Option Addr) (c0 : Nat) (a1 : Option Addr) (c1 : Nat) (a2 : Option Addr) (c2 : Nat) (a4 : Option Addr) (c4 : Nat) (a6 : Option Addr) (c6 : Nat) (st : Za) : List Value := [.slice a0 st.ac.length c0, .slice a1 st.aa.ag.length c1, .slice a2 st.aa.am.length c2, .int .i64 st.ar, .slice a4 st.ai.length c4, .int .i64 st.ax, .slice a6 st.al.length c6, .bool st.az]
abbrev sV (a0 : Option Addr) (c0 : Nat) (a1 : Option Addr) (c1 : Nat) (a2 : Option Addr) (c2 : Nat) (a4 : Option Addr) (c4 : Nat) (a6 : Option Addr) (c6 : Nat) (st : Za) : Value := .agg #[.slice a0 st.ac.length c0, .slice a1 st.aa.ag.length c1, .slice a2 st.aa.am.length c2, .int .i64 st.ar, .slice a4 st.ai.length c4, .int .i64 st.ax, .slice a6 st.al.length c6, .bool st.az]
def Za.Reads (w : World) (v : Value) (x : Za) : Prop := ∃ (a0 : Option Addr) (c0 : Nat) (a1 : Option Addr) (c1 : Nat) (a2 : Option Addr) (c2 : Nat) (a4 : Option Addr) (c4 : Nat) (a6 : Option Addr) (c6 : Nat), v = .agg #[.slice a0 x.ac.length c0, .slice a1 x.aa.ag.length c1, .slice a2 x.aa.am.length c2, .int .i64 x.ar, .slice a4 x.ai.length c4, .int .i64 x.ax, .slice a6 x.al.length c6, .bool x.az] ∧ Rd Zt 1 w a0 x.ac.length x.ac ∧ Rd ZH 1 w a1 x.aa.ag.length x.aa.ag ∧ Rd ZH 1 w a2 x.aa.am.length x.aa.am ∧ Rd PtrD.cells 5 w a4 x.ai.length x.ai ∧ Rd PtrD.cells 5 w a6 x.al.length x.al
structure Za.Fit (x : Za) : Prop where
  f0 : x.ac.length ≤ 1048576
  f1 : x.aa.ag.length ≤ 1048576
  f2 : x.aa.am.length ≤ 1048576
  f4 : x.ai.length ≤ 1048576
  f6 : x.al.length ≤ 1048576
def cnt (ps : List PtrD) (i : Nat) : Nat := (ps.filter fun p => p.aB == (i : Int)).length
theorem Vn (ps : List PtrD) (p : PtrD) (i : Nat) : cnt (ps ++ [p]) i = cnt ps i + if p.aB = (i : Int) then 1 else 0 := by
 unfold cnt;rw [List.filter_append, List.length_append]
 by_cases h : p.aB = (i : Int) <;> simp [h]
theorem Zk1 (ps : List PtrD) (i : Nat) : cnt ps i ≤ ps.length := List.length_filter_le _ _
theorem Zj (a b : List PtrD) (i : Nat) : cnt (a ++ b) i = cnt a i + cnt b i := by simp [cnt, List.filter_append]
theorem Zk2 (ps : List PtrD) (k i : Nat) : cnt (ps.take k) i ≤ cnt ps i := by
 have h := Zj (ps.take k) (ps.drop k) i;rw [List.take_append_drop] at h; omega
def XG (ps : List PtrD) : List Value := (List.range 64).map fun i => .int .i64 (cnt ps i : Nat)
theorem Je (ps : List PtrD) : (XG ps).length = 64 := by simp [XG]
theorem Qt (ps : List PtrD) (i : Nat) (h : i < 64) : (XG ps)[i]? = some (.int .i64 (cnt ps i : Nat)) := by simp [XG, h]
theorem Zan (ps : List PtrD) (p : PtrD) (a : Nat) (ha : p.aB = (a : Int)) (h : a < 64) : (XG ps).set a (.int .i64 ((cnt ps a : Nat) + 1)) = XG (ps ++ [p]) := by
 apply List.ext_getElem?
 intro i
 by_cases hi : i < 64
 ·rw [Qt _ _ hi, Vn, List.getElem?_set]
  by_cases hai : a = i
  ·subst hai
   simp [Je, h, ha]
  ·rw [if_neg hai, Qt _ _ hi, if_neg (by rw [ha]; omega)]
   simp
 ·rw [List.getElem?_eq_none (by rw [List.length_set, Je]; omega), List.getElem?_eq_none (by rw [Je]; omega)]
def YA (p : PtrD) (most : Int) : Bool := p.ok && (!p.hole && decide (p.aj ≤ most))
def Qu (st : Za) (i : Nat) : Bool := decide ((st.ac.getD i ByteArray.empty).size ≤ 128) && (((st.ac.getD i ByteArray.empty).size == 0) == (st.aa.ag.getD i 0 == 0) && decide (st.aa.am.getD i 0 ≤ st.ar))
def Qv (st : Za) (k : Nat) : Bool := (List.range k).all fun i => Qu st i
theorem ZgD (st : Za) (k : Nat) : Qv st (k + 1) = (Qv st k && Qu st k) := by simp [Qv, List.range_succ]
theorem VZ {st : Za} {k m : Nat} (h : Qv st m = true) (hk : k < m) : Qu st k = true := by
 simp only [Qv, List.all_eq_true] at h;exact h k (List.mem_range.2 hk)
theorem Zh3 {st : Za} {k m : Nat} (hk : k < m) (h : Qu st k = false) : Qv st m = false := by
 cases hm : Qv st m with
 | false => rfl
 | true => rw [VZ hm hk] at h; cases h
def Vo (refs : List Int) (ps : List PtrD) : Bool := (List.range 64).all fun i => decide ((cnt ps i : Int) ≤ refs.getD i 0)
def Za.ok (st : Za) : Bool :=
 st.ac.length == 64 && (st.aa.ok && (inB st.ar 1 900 && (inB st.ax 0 (st.ar - 1) && (Qv st 64 &&
  (st.ai.all (fun p => YA p (st.ar - 1)) && (st.al.all (fun p => YA p st.ax) && Vo st.aa.ag (st.ai ++ st.al)))))))
def Ve (st : Za) (j : Nat) : Option PtrD := (st.ai ++ st.al)[j]?
def Ju (st : Za) (j : Nat) : Int := if j < st.ai.length then st.ar - 1 else st.ax
structure Vf (st : Za) (j : Nat) : Prop where
  each : ∀ i p, i < j → Ve st i = some p → YA p (Ju st i) = true
  few : ∀ i, i < 64 → 0 < cnt ((st.ai ++ st.al).take j) i → (cnt ((st.ai ++ st.al).take j) i : Int) ≤ st.aa.ag.getD i 0
theorem Vf.zero (st : Za) : Vf st 0 := ⟨fun i p h => absurd h (Nat.not_lt_zero _), fun i hi h => by simp [cnt] at h⟩
theorem Za9 {p : PtrD} {m : Int} (h : YA p m = true) : 8 ≤ p.aB ∧ p.aB ≤ 63 ∧ p.aj ≤ m ∧ 1 ≤ p.aj ∧ p.aj ≤ 900 := by
 simp only [YA, PtrD.ok, Bool.and_eq_true, Bool.or_eq_true, Bool.not_eq_true', decide_eq_true_eq] at h;obtain ⟨h1, h2, h3⟩ := h;rw [h2] at h1;rcases h1 with h1 | h1
 ·cases h1
 ·obtain ⟨⟨⟨⟨a, b⟩, _⟩, _⟩, _⟩ := h1
  have := Zu a;have := Zu b
  omega
theorem Vf.succ {st : Za} {j : Nat} (h : Vf st j) {p : PtrD} (hp : Ve st j = some p) (hin : YA p (Ju st j) = true) (a : Nat) (ha : p.aB = (a : Int)) (hle : ((cnt ((st.ai ++ st.al).take j) a + 1 : Nat) : Int) ≤ st.aa.ag.getD a 0) : Vf st (j + 1) := by
 obtain ⟨hj, hpe⟩ := List.getElem?_eq_some_iff.1 hp;have hs : (st.ai ++ st.al).take (j + 1) = (st.ai ++ st.al).take j ++ [p] := by rw [List.take_succ_eq_append_getElem hj, hpe]
 refine ⟨fun i q hi hq => ?_, fun i hi hc => ?_⟩
 ·by_cases hij : i = j
  ·subst hij
   obtain rfl := Option.some.inj (hp.symm.trans hq);exact hin
  ·exact h.each i q (by omega) hq
 ·rw [hs, Vn] at hc ⊢
  by_cases hai : p.aB = (i : Int)
  ·have : a = i := by omega
   subst this;rw [if_pos hai];exact hle
  ·rw [if_neg hai] at hc ⊢
   exact h.few i hi hc
theorem Vf.all {st : Za} (h : Vf st (st.ai ++ st.al).length) (hr : ∀ i, i < 64 → 0 ≤ st.aa.ag.getD i 0) :
  (st.ai.all (fun p => YA p (st.ar - 1)) && (st.al.all (fun p => YA p st.ax) && Vo st.aa.ag (st.ai ++ st.al))) = true := by
 rw [Bool.and_eq_true, Bool.and_eq_true];refine ⟨List.all_eq_true.2 fun p hp => ?_, List.all_eq_true.2 fun p hp => ?_, List.all_eq_true.2 fun i hi => ?_⟩
 ·obtain ⟨i, hi, hpe⟩ := List.mem_iff_getElem.1 hp
  have := h.each i p (by rw [List.length_append]; omega) (by unfold Ve; rw [List.getElem?_append_left hi, List.getElem?_eq_getElem hi, hpe])
  rwa [Ju, if_pos hi] at this
 ·obtain ⟨i, hi, hpe⟩ := List.mem_iff_getElem.1 hp
  have := h.each (st.ai.length + i) p (by rw [List.length_append]; omega) (by unfold Ve; rw [List.getElem?_append_right (by omega), Nat.add_sub_cancel_left, List.getElem?_eq_getElem hi, hpe])
  rwa [Ju, if_neg (by omega)] at this
 ·have hi' := List.mem_range.1 hi
  simp only [decide_eq_true_eq]
  by_cases hc : 0 < cnt (st.ai ++ st.al) i
  ·have := h.few i hi' (by rw [List.take_of_length_le (Nat.le_refl _)]; exact hc)
   rwa [List.take_of_length_le (Nat.le_refl _)] at this
  ·have := hr i hi'
   omega
theorem ZeM {st : Za} {j : Nat} {p : PtrD} (hp : Ve st j = some p) (hin : YA p (Ju st j) = false) : st.ok = false := by
 obtain ⟨hj, hpe⟩ := List.getElem?_eq_some_iff.1 hp;unfold Za.ok
 by_cases hg : j < st.ai.length
 ·have hm : p ∈ st.ai := by rw [← hpe, List.getElem_append_left hg]; exact List.getElem_mem _
  have : st.ai.all (fun p => YA p (st.ar - 1)) = false := by
   rw [List.all_eq_false];exact ⟨p, hm, by rw [Ju, if_pos hg] at hin; simp [hin]⟩
  simp [this]
 ·have hlt : j - st.ai.length < st.al.length := by rw [List.length_append] at hj; omega
  have hm : p ∈ st.al := by rw [← hpe, List.getElem_append_right (by omega)]; exact List.getElem_mem _
  have : st.al.all (fun p => YA p st.ax) = false := by
   rw [List.all_eq_false];exact ⟨p, hm, by rw [Ju, if_neg hg] at hin; simp [hin]⟩
  simp [this]
theorem Zdi {st : Za} {j : Nat} {p : PtrD} (hp : Ve st j = some p) (a : Nat) (ha : p.aB = (a : Int)) (h64 : a < 64) (hlt : st.aa.ag.getD a 0 < ((cnt ((st.ai ++ st.al).take j) a + 1 : Nat) : Int)) : st.ok = false := by
 obtain ⟨hj, hpe⟩ := List.getElem?_eq_some_iff.1 hp;have hs : (st.ai ++ st.al).take (j + 1) = (st.ai ++ st.al).take j ++ [p] := by rw [List.take_succ_eq_append_getElem hj, hpe]
 have h1 := Zk2 (st.ai ++ st.al) (j + 1) a;rw [hs, Vn, if_pos ha] at h1;have : Vo st.aa.ag (st.ai ++ st.al) = false := by
  unfold Vo;rw [List.all_eq_false];exact ⟨a, List.mem_range.2 h64, by simp only [decide_eq_true_eq]; omega⟩
 unfold Za.ok;simp [this]
structure ZfL (st : Za) : Prop where
  rows : st.ac.length = 64
  space : st.aa.ok = true
  txg : 1 ≤ st.ar ∧ st.ar ≤ 900
  keep : 0 ≤ st.ax ∧ st.ax ≤ st.ar - 1
  each : Qv st 64 = true
  gone : st.ai.all (fun p => YA p (st.ar - 1)) = true
  dead : st.al.all (fun p => YA p st.ax) = true
  owed : Vo st.aa.ag (st.ai ++ st.al) = true
theorem Za.ok_spec {st : Za} (h : st.ok = true) : ZfL st := by
 simp only [Za.ok, Bool.and_eq_true, beq_iff_eq] at h;obtain ⟨h1, h2, h3, h4, h5, h6, h7, h8⟩ := h;exact ⟨h1, h2, Zu h3, Zu h4, h5, h6, h7, h8⟩
structure Zh4 (s : Zq) : Prop where
  refs : s.ag.length = 64
  last : s.am.length = 64
  each : ∀ i, i < 64 → 0 ≤ s.ag.getD i 0 ∧ s.ag.getD i 0 ≤ s.am.getD i 0 ∧ s.am.getD i 0 ≤ 900 ∧ (s.ag.getD i 0 = 0 → s.am.getD i 0 = 0) ∧ (i < 8 → s.ag.getD i 0 = 0)
theorem Zq.ok_spec {s : Zq} (h : s.ok = true) : Zh4 s := by
 simp only [Zq.ok, Bool.and_eq_true, beq_iff_eq] at h;obtain ⟨⟨h1, h2⟩, h3⟩ := h;refine ⟨h1, h2, fun i hi => ?_⟩;have h4 := ZeK h3 hi;rw [ZeL hi] at h4;simp only [ZfK, Bool.and_eq_true, Bool.or_eq_true, decide_eq_true_eq, bne_iff_ne, beq_iff_eq, Bool.not_eq_true', decide_eq_false_iff_not] at h4;obtain ⟨h5, h6, h7, h8⟩ := h4;have := Zu h5;have := Zu h6;refine ⟨by omega, by omega, by omega, fun h0 => ?_, fun h0 => ?_⟩
 ·rcases h7 with h7 | h7
  ·exact absurd h0 h7
  ·exact h7
 ·rcases h8 with h8 | h8
  ·omega
  ·omega
theorem ZjM (ps : List PtrD) : (madeCells (Value.int .i64 0).cells (64 * 1)).toList = XG (ps.take 0) := by
 show (madeCells #[Value.int .i64 0] 64).toList = _;rw [toList_madeCells_one]
 apply List.ext_getElem?
 intro i
 by_cases hi : i < 64
 ·rw [Qt _ _ hi, List.getElem?_replicate, if_pos hi]; simp [cnt]
 ·rw [List.getElem?_eq_none (by rw [List.length_replicate]; omega), List.getElem?_eq_none (by rw [Je]; omega)]
end Go.Proofs.YthnbgnjpbmnelaaGreatDoor
