/- A part of the proof in YthnbgnjpbmnelaaGreatDoorTqX34. -/
import Derived.Deep.DeepCutAuto
import Derived.Test.YthnbgnjpbmnelaaGreatDoorTqX21
namespace Go.Proofs.YthnbgnjpbmnelaaGreatDoor
set_option maxHeartbeats 2000000
open Go.Proofs.Tryz
open List (length_append length_take mem_cons)
set_option linter.unusedVariables false
set_option linter.unusedSimpArgs false
set_option maxRecDepth 100000
open Go.RowKit
theorem Zj9 (s : ByteArray) (c : Bool) (h : (s.size == 0) = c) : s.toList.isEmpty = c := by
 rw [← h, ByteArray.toList_eq, Bool.eq_iff_iff, List.isEmpty_iff, beq_iff_eq];show _ ↔ s.data.size = 0;rw [← Array.length_toList, List.length_eq_zero_iff]
theorem ZdO (v : Value) (st : Za) (w : World) (hr : Za.Reads w v st) (hf : st.Fit)
  (_hi : -9223372036854775808 ≤ st.ar) (hbad : (st.ac.length == 64 && (st.aa.ok && (inB st.ar 1 900 && inB st.ax 0 (st.ar - 1)))) = false) :
  Calls prog 95 #[v] w fun e w' => e = .returned (.bool false) ∧ Below w.heap.size w w' := by
 obtain ⟨a0, c0, a1, c1, a2, c2, a4, c4, a6, c6, rfl, r0, r1, r2, r4, r6⟩ := hr;have hl0 := hf.f0;have hb0 : Below w.heap.size w (w.alloc (.cells #[.slice a0 st.ac.length c0, .slice a1 st.aa.ag.length c1, .slice a2 st.aa.am.length c2, .int .i64 st.ar, .slice a4 st.ai.length c4, .int .i64 st.ax, .slice a6 st.al.length c6, .bool st.az] 39)) := (Below.refl _ _).alloc (Nat.le_refl _) _;have hA0 := XA w (.cells #[.slice a0 st.ac.length c0, .slice a1 st.aa.ag.length c1, .slice a2 st.aa.am.length c2, .int .i64 st.ar, .slice a4 st.ai.length c4, .int .i64 st.ax, .slice a6 st.al.length c6, .bool st.az] 39) _ rfl
 by_cases h0 : st.ac.length = 64
 rotate_left
 ·go_enter func95, ntmps95
  go_wp2
  go_ret
  exact ⟨rfl, hb0⟩
 have hl : ((st.ac.length : Int) != 64) = false := by simp [h0]
 have E := Lib.hid (Vd (.agg #[.slice a1 st.aa.ag.length c1, .slice a2 st.aa.am.length c2]) st.aa _ ⟨_, _, _, _, rfl, r1.below hb0, r2.below hb0⟩ ⟨hf.f1, hf.f2⟩);have H0 := Lib.hid h0;have HB := Lib.hid hbad;clear h0 hbad
 cases h1 : st.aa.ok
 ·go_enter func95, ntmps95
  go_wp2_with fail
  refine E.out.mono ?_;rintro e w1 ⟨rfl, b1⟩;rw [h1]
  go_wp2
  go_ret
  exact ⟨rfl, hb0.trans (b1.mono hb0.size)⟩
 ·cases h2 : inB st.ar 1 900
  ·go_enter func95, ntmps95
   go_wp2_with fail
   refine E.out.mono ?_;rintro e w1 ⟨rfl, b1⟩;have hA1 := ZW hA0 b1 (Nat.le_refl _);have p3 : w1.cell? ⟨w.heap.size, 3, none⟩ = some (.int .i64 st.ar) := Zl hA1 3;rw [h1]
   go_wp2_with (go_at_call 34; refine (Z2 _ _ _ _).mono ?_; rintro e w' ⟨rfl, rfl⟩)
   go_ret
   exact ⟨rfl, hb0.trans (b1.mono hb0.size)⟩
  ·cases h3 : inB st.ax 0 (st.ar - 1)
   ·have hbt := Zu h2
    go_enter func95, ntmps95
    go_wp2_with fail
    refine E.out.mono ?_;rintro e w1 ⟨rfl, b1⟩;have hA1 := ZW hA0 b1 (Nat.le_refl _);have p3 : w1.cell? ⟨w.heap.size, 3, none⟩ = some (.int .i64 st.ar) := Zl hA1 3;have p5 : w1.cell? ⟨w.heap.size, 5, none⟩ = some (.int .i64 st.ax) := Zl hA1 5;rw [h1]
    go_wp2_with (go_at_call 34; refine (Z2 _ _ _ _).mono ?_; rintro e w' ⟨rfl, rfl⟩)
    go_ret
    exact ⟨rfl, hb0.trans (b1.mono hb0.size)⟩
   ·exact absurd HB.out (by rw [H0.out, h1, h2, h3]; simp)
theorem Zc2 (v : Value) (st : Za) (w : World) (hr : Za.Reads w v st) (hf : st.Fit)
  (h64 : st.ac.length = 64) (hsp : st.aa.ok = true) (htx : inB st.ar 1 900 = true) (hkp : inB st.ax 0 (st.ar - 1) = true) :
  Calls prog 95 #[v] w fun e w' => e = .returned (.bool st.ok) ∧ Below w.heap.size w w' := by
 obtain ⟨a0, c0, a1, c1, a2, c2, a4, c4, a6, c6, rfl, r0, r1, r2, r4, r6⟩ := hr;have hl0 := hf.f0;have hb0 : Below w.heap.size w (w.alloc (.cells #[.slice a0 st.ac.length c0, .slice a1 st.aa.ag.length c1, .slice a2 st.aa.am.length c2, .int .i64 st.ar, .slice a4 st.ai.length c4, .int .i64 st.ax, .slice a6 st.al.length c6, .bool st.az] 39)) := (Below.refl _ _).alloc (Nat.le_refl _) _;have hA0 := XA w (.cells #[.slice a0 st.ac.length c0, .slice a1 st.aa.ag.length c1, .slice a2 st.aa.am.length c2, .int .i64 st.ar, .slice a4 st.ai.length c4, .int .i64 st.ax, .slice a6 st.al.length c6, .bool st.az] 39) _ rfl;have hl : ((st.ac.length : Int) != 64) = false := by simp [h64]
 have E := Lib.hid (Vd (.agg #[.slice a1 st.aa.ag.length c1, .slice a2 st.aa.am.length c2]) st.aa _ ⟨_, _, _, _, rfl, r1.below hb0, r2.below hb0⟩ ⟨hf.f1, hf.f2⟩);have hst : Hid (st.ok = (Qv st 64 && (st.ai.all (fun p => YA p (st.ar - 1)) && (st.al.all (fun p => YA p st.ax) && Vo st.aa.ag (st.ai ++ st.al))))) := by show _ = _; simp [Za.ok, h64, hsp, htx, hkp]
 have hbt := Zu htx;have hbk := Zu hkp;have hg4 := hf.f4;have hg6 := hf.f6;have HSP := Lib.hid (Zq.ok_spec hsp);have H64 := Lib.hid h64;have hf2 := hf;clear h64 hf
 go_enter func95, ntmps95
 go_wp2_with fail
 refine E.out.mono ?_;rintro e w1 ⟨rfl, b1⟩;have hA1 := ZW hA0 b1 (Nat.le_refl _);have hb1 := hb0.trans (b1.mono hb0.size);have p3 : w1.cell? ⟨w.heap.size, 3, none⟩ = some (.int .i64 st.ar) := Zl hA1 3;have p5 : w1.cell? ⟨w.heap.size, 5, none⟩ = some (.int .i64 st.ax) := Zl hA1 5;rw [hsp]
 go_wp2_with (go_at_call 34; refine (Z2 _ _ _ _).mono ?_; rintro e w' ⟨rfl, rfl⟩)
 have HSPB := Lib.hid hsp;clear hsp htx hkp hb0 hA0 b1 p3 p5
 go_loopw [3] (fun i wr => ∃ k : Nat, k ≤ 64 ∧ i = .int .i64 k ∧ Qv st k = true ∧ Below w.heap.size w wr ∧ wr.heap[w.heap.size]? = some (.cells #[.slice a0 st.ac.length c0, .slice a1 st.aa.ag.length c1, .slice a2 st.aa.am.length c2, .int .i64 st.ar, .slice a4 st.ai.length c4, .int .i64 st.ax, .slice a6 st.al.length c6, .bool st.az] 39 (0, 0))) (fun i _ => 64 - (intOf i).toNat)
 case atStart => exact ⟨0, by omega, rfl, rfl, hb1, hA1⟩
 case round =>
  obtain ⟨k, hk, rfl, hok, hb, hA⟩ := hrel;have HOK := Lib.hid hok;clear hok hb1 hA1
  by_cases hlt : k < 64
  ·obtain ⟨b, off, s, hx0, rfl, hbl, hrg⟩ := r0.at_ k (by rw [H64.out]; exact hlt)
   have d0 := (Ye hrg hb hbl) 0 _ rfl;obtain ⟨b1, off1, r, hx1, rfl, hbl1, hrg1⟩ := r1.at_ k (by rw [HSP.out.refs]; exact hlt);have d1 := (Ye hrg1 hb hbl1) 0 _ rfl;obtain ⟨b2, off2, l, hx2, rfl, hbl2, hrg2⟩ := r2.at_ k (by rw [HSP.out.last]; exact hlt);have d2 := (Ye hrg2 hb hbl2) 0 _ rfl;simp only [Nat.mul_one, Nat.add_zero] at d0 d1 d2;have e0 := UU (d := ByteArray.empty) hx0;have e1 := UU (d := (0 : Int)) hx1;have e2 := UU (d := (0 : Int)) hx2;have hrow : Hid (Qu st k = (decide (s.size ≤ 128) && ((s.size == 0) == (r == 0) && decide (l ≤ st.ar)))) := by show _ = _; unfold Qu; rw [e0, e1, e2]
   have hlast : Hid (Qu st k = false → st.ok = false) := fun h => by rw [hst.out, Zh3 hlt h]; rfl
   have hnext : Hid (Qu st k = true → Qv st (k + 1) = true) := fun h => by rw [ZgD, HOK.out, h]; rfl
   have hlen0 : k < st.ac.length := by rw [H64.out]; exact hlt
   have hlen1 : k < st.aa.ag.length := by rw [HSP.out.refs]; exact hlt
   have hlen2 : k < st.aa.am.length := by rw [HSP.out.last]; exact hlt
   have p0 : wr.cell? ⟨w.heap.size, 0, none⟩ = some (.slice (some ⟨b, off, none⟩) st.ac.length c0) := Zl hA 0;have p1 : wr.cell? ⟨w.heap.size, 1, none⟩ = some (.slice (some ⟨b1, off1, none⟩) st.aa.ag.length c1) := Zl hA 1;have p2 : wr.cell? ⟨w.heap.size, 2, none⟩ = some (.slice (some ⟨b2, off2, none⟩) st.aa.am.length c2) := Zl hA 2;have p3 : wr.cell? ⟨w.heap.size, 3, none⟩ = some (.int .i64 st.ar) := Zl hA 3;have HA := Lib.hid hA;clear hx0 hx1 hx2 hrg hrg1 hrg2 hA e0 e1 e2
   by_cases g1 : s.size ≤ 128
   rotate_left
   ·have HR : Hid (Qu st k = false) := by show _ = _; rw [hrow.out]; simp [g1]
    have g1' : decide ((128 : Int) < (s.size : Int)) = true := by simp; omega
    go_wp2_with fail
    go_quiet (fail)
    go_wp2
    go_ret
    exact ⟨ZO (hlast.out HR.out).symm, hb.trans (ZK _ _ _)⟩
   ·have g1' : decide ((128 : Int) < (s.size : Int)) = false := by simp; omega
    have e1 : ∀ (cb : Bool), (s.size == 0) = cb → s.toList.isEmpty = cb := fun cb h => Zj9 s cb h
    cases gs : (s.size == 0)
    all_goals
     have gs2 := e1 _ gs;clear e1
     cases gr : (r == 0)
    ·by_cases g3 : l ≤ st.ar
     ·have g3' : decide (st.ar < l) = false := by simp; omega
      have HR : Hid (Qu st k = true) := by show _ = _; rw [hrow.out]; simp [g1, g3, gs, gr]
      go_wp2_with fail
      go_quiet (fail)
      go_wp2
      go_roundw
      case rel => exact ⟨k + 1, by omega, by go_num, hnext.out HR.out, hb.trans (ZK _ _ _), HA.out⟩
      case measure => simp [intOf]; omega
     ·have g3' : decide (st.ar < l) = true := by simp; omega
      have HR : Hid (Qu st k = false) := by show _ = _; rw [hrow.out]; simp [g3]
      go_wp2_with fail
      go_quiet (fail)
      go_wp2
      go_ret
      exact ⟨ZO (hlast.out HR.out).symm, hb.trans (ZK _ _ _)⟩
    ·have HR : Hid (Qu st k = false) := by show _ = _; rw [hrow.out]; simp [gs, gr]
     go_wp2_with fail
     go_quiet (fail)
     go_wp2
     go_ret
     exact ⟨ZO (hlast.out HR.out).symm, hb.trans (ZK _ _ _)⟩
    ·have HR : Hid (Qu st k = false) := by show _ = _; rw [hrow.out]; simp [gs, gr]
     go_wp2_with fail
     go_quiet (fail)
     go_wp2
     go_ret
     exact ⟨ZO (hlast.out HR.out).symm, hb.trans (ZK _ _ _)⟩
    ·by_cases g3 : l ≤ st.ar
     ·have g3' : decide (st.ar < l) = false := by simp; omega
      have HR : Hid (Qu st k = true) := by show _ = _; rw [hrow.out]; simp [g1, g3, gs, gr]
      go_wp2_with fail
      go_quiet (fail)
      go_wp2
      go_roundw
      case rel => exact ⟨k + 1, by omega, by go_num, hnext.out HR.out, hb.trans (ZK _ _ _), HA.out⟩
      case measure => simp [intOf]; omega
     ·have g3' : decide (st.ar < l) = true := by simp; omega
      have HR : Hid (Qu st k = false) := by show _ = _; rw [hrow.out]; simp [g3]
      go_wp2_with fail
      go_quiet (fail)
      go_wp2
      go_ret
      exact ⟨ZO (hlast.out HR.out).symm, hb.trans (ZK _ _ _)⟩
  ·have hk' : k = 64 := by omega
   subst hk';obtain ⟨i0, hi, hz0, hz1, hz2⟩ := info_parts Tryz.infoIntS
   go_wp2_with (refine wpList_make_full _ rfl (.const (.int .i64 64)) (.const (.int .i64 64)) 23 rfl wr.heap.size 3 i0 _ 1 Tryz.underlying23 hi hz0 hz1 .i64 .i64 _ _ 64 rfl rfl rfl rfl ?b2 ?b3 ?b4 ?_)
   case b2 => rw [hz2]; omega
   case b3 => unfold maxLen; omega
   case b4 => exact Nat.le_refl _
   intro wm hown hg;have hbm : Below w.heap.size w wm := hb.grown hg hb.size (by simp);have hAm := ZjK hA hg (by simp);have hgm : w.heap.size < wr.heap.size := Vm hA;have hown : wm.ownsRow wr.heap.size 3 1 (.slice (some ⟨wr.heap.size, 0, none⟩) 64 64) 64 (XG ((st.ai ++ st.al).take 0)) := by rw [← ZjM]; exact hown
   generalize wr.heap.size = g at hown hgm ⊢;clear hb hA hg hi hz0 hz1 hz2 hlt hk r0 r2 E
   go_wp2
   go_loopw [5] (fun i wr => ∃ j : Nat, j ≤ st.ai.length + st.al.length ∧ i = .int .i64 j ∧ Vf st j ∧ wr.ownsRow g 3 1 (.slice (some ⟨g, 0, none⟩) 64 64) 64 (XG ((st.ai ++ st.al).take j)) ∧ Below w.heap.size w wr ∧ wr.heap[w.heap.size]? = some (.cells #[.slice a0 st.ac.length c0, .slice a1 st.aa.ag.length c1, .slice a2 st.aa.am.length c2, .int .i64 st.ar, .slice a4 st.ai.length c4, .int .i64 st.ax, .slice a6 st.al.length c6, .bool st.az] 39 (0, 0))) (fun i _ => st.ai.length + st.al.length - (intOf i).toNat)
   case atStart => exact ⟨0, Nat.zero_le _, rfl, Vf.zero st, hown, hbm, hAm⟩
   case round =>
    obtain ⟨j, hj, rfl, hgiv, ho, hb, hA⟩ := hrel;clear hown hbm hAm
    by_cases hlt : j < st.ai.length + st.al.length
    ·by_cases hgo : j < st.ai.length
     ·obtain ⟨b, off, p, hp, rfl, hbl, hrg⟩ := r4.at_ (j) (by omega)
      obtain ⟨d0, d1, d2, d3, d4⟩ := PtrD.at_ (Ye hrg hb hbl);have hout : Ve st j = some p := by unfold Ve; rw [List.getElem?_append_left hgo]; exact hp
      have hmost : Ju st j = st.ar - 1 := by unfold Ju; rw [if_pos hgo]
      have hbad : Hid (YA p (st.ar - 1) = false → st.ok = false) := fun h => ZeM hout (by rw [hmost]; exact h)
      have hmany : Hid (∀ a : Nat, p.aB = (a : Int) → a < 64 → st.aa.ag.getD a 0 < ((cnt ((st.ai ++ st.al).take j) a + 1 : Nat) : Int) → st.ok = false) := fun a h1 h2 h3 => Zdi hout a h1 h2 h3
      have hstep : Hid (∀ a : Nat, YA p (st.ar - 1) = true → p.aB = (a : Int) → ((cnt ((st.ai ++ st.al).take j) a + 1 : Nat) : Int) ≤ st.aa.ag.getD a 0 → Vf st (j + 1)) := fun a h1 h2 h3 => hgiv.succ hout (by rw [hmost]; exact h1) a h2 h3
      have hsn : Hid ((st.ai ++ st.al).take (j + 1) = (st.ai ++ st.al).take j ++ [p]) := by show _ = _; obtain ⟨hj2, hpe⟩ := List.getElem?_eq_some_iff.1 hout; rw [List.take_succ_eq_append_getElem hj2]; unfold Ve at hout; rw [hpe]
      have hcj : ((st.ai ++ st.al).take j).length ≤ 2097152 := by rw [length_take, length_append]; omega
      have hgiv2 := Lib.hid hgiv;have p1 : wr.cell? ⟨w.heap.size, 1, none⟩ = some (.slice a1 st.aa.ag.length c1) := Zl hA 1;have p3 : wr.cell? ⟨w.heap.size, 3, none⟩ = some (.int .i64 st.ar) := Zl hA 3;have p4 : wr.cell? ⟨w.heap.size, 4, none⟩ = some (.slice (some ⟨b, off, none⟩) st.ai.length c4) := Zl hA 4;have p5 : wr.cell? ⟨w.heap.size, 5, none⟩ = some (.int .i64 st.ax) := Zl hA 5;have p6 : wr.cell? ⟨w.heap.size, 6, none⟩ = some (.slice a6 st.al.length c6) := Zl hA 6;have HA := Lib.hid hA;have hw0 := Vm hA;have hbw : b < wr.heap.size := Nat.lt_of_lt_of_le hbl hb.size;clear hp hout hmost hrg hgiv hA;have hin : Hid (YA p (st.ar - 1) = (p.ok && (!p.hole && decide (p.aj ≤ st.ar - 1)))) := rfl
      cases h1 : p.ok
      ·have HR : Hid (YA p (st.ar - 1) = false) := by show _ = _; rw [hin.out, h1]; rfl
       go_wp2_with fail
       refine (ZN p _).mono ?_;rintro e w2 ⟨rfl, b2⟩;have hb2 := (hb.alloc hb.size _).trans (b2.mono (hb.alloc hb.size _).size);have q2 := ZW (XA wr (.cells #[.int .i64 p.aB, .int .i64 p.aj, .int .i64 p.av, .int .i64 p.aC, .int .i64 p.aq] 40) _ rfl) b2 (Nat.le_refl _);rw [h1]
       go_wp2
       go_ret
       exact ⟨ZO (hbad.out HR.out).symm, hb2⟩
      ·cases h2 : p.hole
       rotate_left
       ·have HR : Hid (YA p (st.ar - 1) = false) := by show _ = _; rw [hin.out, h1, h2]; rfl
        go_wp2_with fail
        refine (ZN p _).mono ?_;rintro e w2 ⟨rfl, b2⟩;have hb2 := (hb.alloc hb.size _).trans (b2.mono (hb.alloc hb.size _).size);have q2 := ZW (XA wr (.cells #[.int .i64 p.aB, .int .i64 p.aj, .int .i64 p.av, .int .i64 p.aC, .int .i64 p.aq] 40) _ rfl) b2 (Nat.le_refl _);rw [h1];have f0 : w2.cell? ⟨wr.heap.size, 0, none⟩ = some (.int .i64 p.aB) := Zl q2 0;have f1 : w2.cell? ⟨wr.heap.size, 1, none⟩ = some (.int .i64 p.aj) := Zl q2 1;have f2 : w2.cell? ⟨wr.heap.size, 2, none⟩ = some (.int .i64 p.av) := Zl q2 2;have f3 : w2.cell? ⟨wr.heap.size, 3, none⟩ = some (.int .i64 p.aC) := Zl q2 3;have f4 : w2.cell? ⟨wr.heap.size, 4, none⟩ = some (.int .i64 p.aq) := Zl q2 4
        go_wp2_with fail
        refine (Zy p _).mono ?_;rintro e w3 ⟨rfl, b3⟩;have hb3 := hb2.trans (b3.mono hb2.size);have q3 := ZW q2 b3 (Nat.le_refl _);clear f0 f1 f2 f3 f4;rw [h2]
        go_wp2
        go_ret
        exact ⟨ZO (hbad.out HR.out).symm, hb3⟩
       ·by_cases h3 : p.aj ≤ st.ar - 1
        rotate_left
        ·have HR : Hid (YA p (st.ar - 1) = false) := by show _ = _; rw [hin.out, h1, h2]; simp [h3]
         go_wp2_with fail
         refine (ZN p _).mono ?_;rintro e w2 ⟨rfl, b2⟩;have hb2 := (hb.alloc hb.size _).trans (b2.mono (hb.alloc hb.size _).size);have q2 := ZW (XA wr (.cells #[.int .i64 p.aB, .int .i64 p.aj, .int .i64 p.av, .int .i64 p.aC, .int .i64 p.aq] 40) _ rfl) b2 (Nat.le_refl _);rw [h1];have f0 : w2.cell? ⟨wr.heap.size, 0, none⟩ = some (.int .i64 p.aB) := Zl q2 0;have f1 : w2.cell? ⟨wr.heap.size, 1, none⟩ = some (.int .i64 p.aj) := Zl q2 1;have f2 : w2.cell? ⟨wr.heap.size, 2, none⟩ = some (.int .i64 p.av) := Zl q2 2;have f3 : w2.cell? ⟨wr.heap.size, 3, none⟩ = some (.int .i64 p.aC) := Zl q2 3;have f4 : w2.cell? ⟨wr.heap.size, 4, none⟩ = some (.int .i64 p.aq) := Zl q2 4
         go_wp2_with fail
         refine (Zy p _).mono ?_;rintro e w3 ⟨rfl, b3⟩;have hb3 := hb2.trans (b3.mono hb2.size);have q3 := ZW q2 b3 (Nat.le_refl _);clear f0 f1 f2 f3 f4;rw [h2];have f1 : w3.cell? ⟨wr.heap.size, 1, none⟩ = some (.int .i64 p.aj) := Zl q3 1
         go_wp2
         go_ret
         exact ⟨ZO (hbad.out HR.out).symm, hb3⟩
        ·have HR : Hid (YA p (st.ar - 1) = true) := by show _ = _; rw [hin.out, h1, h2]; simp [h3]
         have hat := Za9 HR.out;obtain ⟨a, ha⟩ : ∃ a : Nat, p.aB = (a : Int) := ⟨p.aB.toNat, by omega⟩;have ha1 : a < 64 := by omega
         have ha0 : 8 ≤ a := by omega
         have Ha := Lib.hid ha;clear ha
         go_wp2_with fail
         refine (ZN p _).mono ?_;rintro e w2 ⟨rfl, b2⟩;have hb2 := (hb.alloc hb.size _).trans (b2.mono (hb.alloc hb.size _).size);have q2 := ZW (XA wr (.cells #[.int .i64 p.aB, .int .i64 p.aj, .int .i64 p.av, .int .i64 p.aC, .int .i64 p.aq] 40) _ rfl) b2 (Nat.le_refl _);rw [h1];have f0 : w2.cell? ⟨wr.heap.size, 0, none⟩ = some (.int .i64 p.aB) := Zl q2 0;have f1 : w2.cell? ⟨wr.heap.size, 1, none⟩ = some (.int .i64 p.aj) := Zl q2 1;have f2 : w2.cell? ⟨wr.heap.size, 2, none⟩ = some (.int .i64 p.av) := Zl q2 2;have f3 : w2.cell? ⟨wr.heap.size, 3, none⟩ = some (.int .i64 p.aC) := Zl q2 3;have f4 : w2.cell? ⟨wr.heap.size, 4, none⟩ = some (.int .i64 p.aq) := Zl q2 4
         go_wp2_with fail
         refine (Zy p _).mono ?_;rintro e w3 ⟨rfl, b3⟩;have hb3 := hb2.trans (b3.mono hb2.size);have q3 := ZW q2 b3 (Nat.le_refl _);clear f0 f1 f2 f3 f4;rw [h2];have f0 : w3.cell? ⟨wr.heap.size, 0, none⟩ = some (.int .i64 (a : Int)) := by rw [← Ha.out]; exact Zl q3 0
         have f1 : w3.cell? ⟨wr.heap.size, 1, none⟩ = some (.int .i64 p.aj) := Zl q3 1;have hw3 : wr.heap.size < w3.heap.size := Vm q3;have hA3 := ZW (ZW (ZeJ HA.out (.cells #[.int .i64 p.aB, .int .i64 p.aj, .int .i64 p.av, .int .i64 p.aC, .int .i64 p.aq] 40)) b2 (Nat.le_refl _)) b3 (Nat.le_refl _);have ho3 := UT (UT (ho.alloc (.cells #[.int .i64 p.aB, .int .i64 p.aj, .int .i64 p.av, .int .i64 p.aC, .int .i64 p.aq] 40)) b2 (Nat.le_refl _)) b3 (Nat.le_refl _);have hca : w3.cell? ⟨g, a, none⟩ = some (.int .i64 (cnt ((st.ai ++ st.al).take j) a : Nat)) := by rw [ho3.cellAt a (by omega)]; exact Qt _ _ ha1
         have hfa := ho3.frozenAt a;have hcl := Zk1 ((st.ai ++ st.al).take j) a;obtain ⟨b1, off1, r, hx1, rfl, hbl1, hrg1⟩ := r1.at_ a (by rw [HSP.out.refs]; exact ha1);have g1 := (Ye hrg1 hb3 hbl1) 0 _ rfl;simp only [Nat.mul_one, Nat.add_zero] at g1;have e1 := Lib.hid (UU (d := (0 : Int)) hx1);have hl1 : a < st.aa.ag.length := by rw [HSP.out.refs]; exact ha1
         have hgw : g < wr.heap.size := (ho.lt g (by simp [Value.ownBlock])).2;have p1 : w3.cell? ⟨w.heap.size, 1, none⟩ = some (.slice (some ⟨b1, off1, none⟩) st.aa.ag.length c1) := Zl hA3 1;have HA3 := Lib.hid hA3;have HO3 := Lib.hid ho3;have hb3l : b1 < g := Nat.lt_trans hbl1 hgm;have Q3 := Lib.hid q3;clear hx1 hrg1 hA3 ho3 q2 q3 b2 b3 ho HA hb hb2;generalize hcd : cnt ((st.ai ++ st.al).take j) a = cn at hca hcl;have HCD := Lib.hid hcd;clear hcd
         go_wp2_with fail
         go_region
         all_goals
          obtain ⟨ho4, _⟩ := HO3.out.stored a (.int .i64 ((cn : Int) + 1));have ho5 : World.ownsRow (w3.setCell ⟨g, a, none⟩ (.int .i64 ((cn : Int) + 1))).drew g 3 1 (.slice (some ⟨g, 0, none⟩) 64 64) 64 (XG ((st.ai ++ st.al).take (j + 1))) := by rw [hsn.out, ← Zan _ p a Ha.out ha1, HCD.out]; exact ho4
          have hb4 : Below w.heap.size w (w3.setCell ⟨g, a, none⟩ (.int .i64 ((cn : Int) + 1))).drew := (hb3.setCell (p := ⟨g, a, none⟩) (Nat.le_of_lt hgm) _).drew;have hA4 : ((w3.setCell ⟨g, a, none⟩ (.int .i64 ((cn : Int) + 1))).drew).heap[w.heap.size]? = some (.cells #[.slice a0 st.ac.length c0, .slice (some ⟨b1, off1, none⟩) st.aa.ag.length c1, .slice a2 st.aa.am.length c2, .int .i64 st.ar, .slice (some ⟨b, off, none⟩) st.ai.length c4, .int .i64 st.ax, .slice a6 st.al.length c6, .bool st.az] 39 (0, 0)) := QT HA3.out (p := ⟨g, a, none⟩) (Nat.ne_of_lt hgm) _;have q4 : ((w3.setCell ⟨g, a, none⟩ (.int .i64 ((cn : Int) + 1))).drew).heap[wr.heap.size]? = some (.cells #[.int .i64 p.aB, .int .i64 p.aj, .int .i64 p.av, .int .i64 p.aC, .int .i64 p.aq] 40 (0, 0)) := QT Q3.out (p := ⟨g, a, none⟩) (Nat.ne_of_gt hgw) _;have g4 : World.cell? (w3.setCell ⟨g, a, none⟩ (.int .i64 ((cn : Int) + 1))).drew ⟨b1, off1 + a, none⟩ = some (.int .i64 r) := (World.cell?_setCell_other _ _ _ _ (fun e => by injection e with e _ _; omega)).trans g1;have hca4 : World.cell? (w3.setCell ⟨g, a, none⟩ (.int .i64 ((cn : Int) + 1))).drew ⟨g, a, none⟩ = some (.int .i64 ((cn : Int) + 1)) := World.cell?_setCell_same _ _ _ hca;clear f0 f1 g1 p1 hca hfa ho4;generalize (w3.setCell ⟨g, a, none⟩ (.int .i64 ((cn : Int) + 1))).drew = w4 at ho5 hb4 hA4 q4 g4 hca4 ⊢;have f0 : w4.cell? ⟨wr.heap.size, 0, none⟩ = some (.int .i64 (a : Int)) := by rw [← Ha.out]; exact Zl q4 0
          have p1 : w4.cell? ⟨w.heap.size, 1, none⟩ = some (.slice (some ⟨b1, off1, none⟩) st.aa.ag.length c1) := Zl hA4 1;have HA4 := Lib.hid hA4;have HO5 := Lib.hid ho5;clear hA4 ho5 q4
          by_cases hmn : (cn : Int) + 1 ≤ r
          ·have hcmp : decide ((r : Int) < (cn : Int) + 1) = false := by simp; omega
           go_wp2_with fail
           go_quiet (fail)
           go_wp2
           go_roundw
           case rel => exact ⟨j + 1, by omega, by go_num, hstep.out a HR.out Ha.out (by rw [e1.out, HCD.out]; omega), HO5.out, hb4.trans (ZK _ _ _), HA4.out⟩
           case measure => simp [intOf]; omega
          ·have hcmp : decide ((r : Int) < (cn : Int) + 1) = true := by simp; omega
           go_wp2_with fail
           go_quiet (fail)
           go_wp2
           go_ret
           exact ⟨ZO (hmany.out a Ha.out ha1 (by rw [e1.out, HCD.out]; omega)).symm, hb4.trans (ZK _ _ _)⟩
     ·obtain ⟨b, off, p, hp, rfl, hbl, hrg⟩ := r6.at_ (j - st.ai.length) (by omega)
      obtain ⟨d0, d1, d2, d3, d4⟩ := PtrD.at_ (Ye hrg hb hbl);have hout : Ve st j = some p := by unfold Ve; rw [List.getElem?_append_right (by omega)]; exact hp
      have hmost : Ju st j = st.ax := by unfold Ju; rw [if_neg hgo]
      have hbad : Hid (YA p (st.ax) = false → st.ok = false) := fun h => ZeM hout (by rw [hmost]; exact h)
      have hmany : Hid (∀ a : Nat, p.aB = (a : Int) → a < 64 → st.aa.ag.getD a 0 < ((cnt ((st.ai ++ st.al).take j) a + 1 : Nat) : Int) → st.ok = false) := fun a h1 h2 h3 => Zdi hout a h1 h2 h3
      have hstep : Hid (∀ a : Nat, YA p (st.ax) = true → p.aB = (a : Int) → ((cnt ((st.ai ++ st.al).take j) a + 1 : Nat) : Int) ≤ st.aa.ag.getD a 0 → Vf st (j + 1)) := fun a h1 h2 h3 => hgiv.succ hout (by rw [hmost]; exact h1) a h2 h3
      have hsn : Hid ((st.ai ++ st.al).take (j + 1) = (st.ai ++ st.al).take j ++ [p]) := by show _ = _; obtain ⟨hj2, hpe⟩ := List.getElem?_eq_some_iff.1 hout; rw [List.take_succ_eq_append_getElem hj2]; unfold Ve at hout; rw [hpe]
      have hcj : ((st.ai ++ st.al).take j).length ≤ 2097152 := by rw [length_take, length_append]; omega
      have hgiv2 := Lib.hid hgiv;have p1 : wr.cell? ⟨w.heap.size, 1, none⟩ = some (.slice a1 st.aa.ag.length c1) := Zl hA 1;have p3 : wr.cell? ⟨w.heap.size, 3, none⟩ = some (.int .i64 st.ar) := Zl hA 3;have p4 : wr.cell? ⟨w.heap.size, 4, none⟩ = some (.slice a4 st.ai.length c4) := Zl hA 4;have p5 : wr.cell? ⟨w.heap.size, 5, none⟩ = some (.int .i64 st.ax) := Zl hA 5;have p6 : wr.cell? ⟨w.heap.size, 6, none⟩ = some (.slice (some ⟨b, off, none⟩) st.al.length c6) := Zl hA 6;have HA := Lib.hid hA;have hw0 := Vm hA;have hbw : b < wr.heap.size := Nat.lt_of_lt_of_le hbl hb.size;clear hp hout hmost hrg hgiv hA;have hin : Hid (YA p (st.ax) = (p.ok && (!p.hole && decide (p.aj ≤ st.ax)))) := rfl
      cases h1 : p.ok
      ·have HR : Hid (YA p (st.ax) = false) := by show _ = _; rw [hin.out, h1]; rfl
       go_wp2_with fail
       refine (ZN p _).mono ?_;rintro e w2 ⟨rfl, b2⟩;have hb2 := (hb.alloc hb.size _).trans (b2.mono (hb.alloc hb.size _).size);have q2 := ZW (XA wr (.cells #[.int .i64 p.aB, .int .i64 p.aj, .int .i64 p.av, .int .i64 p.aC, .int .i64 p.aq] 40) _ rfl) b2 (Nat.le_refl _);rw [h1]
       go_wp2
       go_ret
       exact ⟨ZO (hbad.out HR.out).symm, hb2⟩
      ·cases h2 : p.hole
       rotate_left
       ·have HR : Hid (YA p (st.ax) = false) := by show _ = _; rw [hin.out, h1, h2]; rfl
        go_wp2_with fail
        refine (ZN p _).mono ?_;rintro e w2 ⟨rfl, b2⟩;have hb2 := (hb.alloc hb.size _).trans (b2.mono (hb.alloc hb.size _).size);have q2 := ZW (XA wr (.cells #[.int .i64 p.aB, .int .i64 p.aj, .int .i64 p.av, .int .i64 p.aC, .int .i64 p.aq] 40) _ rfl) b2 (Nat.le_refl _);rw [h1];have f0 : w2.cell? ⟨wr.heap.size, 0, none⟩ = some (.int .i64 p.aB) := Zl q2 0;have f1 : w2.cell? ⟨wr.heap.size, 1, none⟩ = some (.int .i64 p.aj) := Zl q2 1;have f2 : w2.cell? ⟨wr.heap.size, 2, none⟩ = some (.int .i64 p.av) := Zl q2 2;have f3 : w2.cell? ⟨wr.heap.size, 3, none⟩ = some (.int .i64 p.aC) := Zl q2 3;have f4 : w2.cell? ⟨wr.heap.size, 4, none⟩ = some (.int .i64 p.aq) := Zl q2 4
        go_wp2_with fail
        refine (Zy p _).mono ?_;rintro e w3 ⟨rfl, b3⟩;have hb3 := hb2.trans (b3.mono hb2.size);have q3 := ZW q2 b3 (Nat.le_refl _);clear f0 f1 f2 f3 f4;rw [h2]
        go_wp2
        go_ret
        exact ⟨ZO (hbad.out HR.out).symm, hb3⟩
       ·by_cases h3 : p.aj ≤ st.ax
        rotate_left
        ·have HR : Hid (YA p (st.ax) = false) := by show _ = _; rw [hin.out, h1, h2]; simp [h3]
         go_wp2_with fail
         refine (ZN p _).mono ?_;rintro e w2 ⟨rfl, b2⟩;have hb2 := (hb.alloc hb.size _).trans (b2.mono (hb.alloc hb.size _).size);have q2 := ZW (XA wr (.cells #[.int .i64 p.aB, .int .i64 p.aj, .int .i64 p.av, .int .i64 p.aC, .int .i64 p.aq] 40) _ rfl) b2 (Nat.le_refl _);rw [h1];have f0 : w2.cell? ⟨wr.heap.size, 0, none⟩ = some (.int .i64 p.aB) := Zl q2 0;have f1 : w2.cell? ⟨wr.heap.size, 1, none⟩ = some (.int .i64 p.aj) := Zl q2 1;have f2 : w2.cell? ⟨wr.heap.size, 2, none⟩ = some (.int .i64 p.av) := Zl q2 2;have f3 : w2.cell? ⟨wr.heap.size, 3, none⟩ = some (.int .i64 p.aC) := Zl q2 3;have f4 : w2.cell? ⟨wr.heap.size, 4, none⟩ = some (.int .i64 p.aq) := Zl q2 4
         go_wp2_with fail
         refine (Zy p _).mono ?_;rintro e w3 ⟨rfl, b3⟩;have hb3 := hb2.trans (b3.mono hb2.size);have q3 := ZW q2 b3 (Nat.le_refl _);clear f0 f1 f2 f3 f4;rw [h2];have f1 : w3.cell? ⟨wr.heap.size, 1, none⟩ = some (.int .i64 p.aj) := Zl q3 1
         go_wp2
         go_ret
         exact ⟨ZO (hbad.out HR.out).symm, hb3⟩
        ·have HR : Hid (YA p (st.ax) = true) := by show _ = _; rw [hin.out, h1, h2]; simp [h3]
         have hat := Za9 HR.out;obtain ⟨a, ha⟩ : ∃ a : Nat, p.aB = (a : Int) := ⟨p.aB.toNat, by omega⟩;have ha1 : a < 64 := by omega
         have ha0 : 8 ≤ a := by omega
         have Ha := Lib.hid ha;clear ha
         go_wp2_with fail
         refine (ZN p _).mono ?_;rintro e w2 ⟨rfl, b2⟩;have hb2 := (hb.alloc hb.size _).trans (b2.mono (hb.alloc hb.size _).size);have q2 := ZW (XA wr (.cells #[.int .i64 p.aB, .int .i64 p.aj, .int .i64 p.av, .int .i64 p.aC, .int .i64 p.aq] 40) _ rfl) b2 (Nat.le_refl _);rw [h1];have f0 : w2.cell? ⟨wr.heap.size, 0, none⟩ = some (.int .i64 p.aB) := Zl q2 0;have f1 : w2.cell? ⟨wr.heap.size, 1, none⟩ = some (.int .i64 p.aj) := Zl q2 1;have f2 : w2.cell? ⟨wr.heap.size, 2, none⟩ = some (.int .i64 p.av) := Zl q2 2;have f3 : w2.cell? ⟨wr.heap.size, 3, none⟩ = some (.int .i64 p.aC) := Zl q2 3;have f4 : w2.cell? ⟨wr.heap.size, 4, none⟩ = some (.int .i64 p.aq) := Zl q2 4
         go_wp2_with fail
         refine (Zy p _).mono ?_;rintro e w3 ⟨rfl, b3⟩;have hb3 := hb2.trans (b3.mono hb2.size);have q3 := ZW q2 b3 (Nat.le_refl _);clear f0 f1 f2 f3 f4;rw [h2];have f0 : w3.cell? ⟨wr.heap.size, 0, none⟩ = some (.int .i64 (a : Int)) := by rw [← Ha.out]; exact Zl q3 0
         have f1 : w3.cell? ⟨wr.heap.size, 1, none⟩ = some (.int .i64 p.aj) := Zl q3 1;have hw3 : wr.heap.size < w3.heap.size := Vm q3;have hA3 := ZW (ZW (ZeJ HA.out (.cells #[.int .i64 p.aB, .int .i64 p.aj, .int .i64 p.av, .int .i64 p.aC, .int .i64 p.aq] 40)) b2 (Nat.le_refl _)) b3 (Nat.le_refl _);have ho3 := UT (UT (ho.alloc (.cells #[.int .i64 p.aB, .int .i64 p.aj, .int .i64 p.av, .int .i64 p.aC, .int .i64 p.aq] 40)) b2 (Nat.le_refl _)) b3 (Nat.le_refl _);have hca : w3.cell? ⟨g, a, none⟩ = some (.int .i64 (cnt ((st.ai ++ st.al).take j) a : Nat)) := by rw [ho3.cellAt a (by omega)]; exact Qt _ _ ha1
         have hfa := ho3.frozenAt a;have hcl := Zk1 ((st.ai ++ st.al).take j) a;obtain ⟨b1, off1, r, hx1, rfl, hbl1, hrg1⟩ := r1.at_ a (by rw [HSP.out.refs]; exact ha1);have g1 := (Ye hrg1 hb3 hbl1) 0 _ rfl;simp only [Nat.mul_one, Nat.add_zero] at g1;have e1 := Lib.hid (UU (d := (0 : Int)) hx1);have hl1 : a < st.aa.ag.length := by rw [HSP.out.refs]; exact ha1
         have hgw : g < wr.heap.size := (ho.lt g (by simp [Value.ownBlock])).2;have p1 : w3.cell? ⟨w.heap.size, 1, none⟩ = some (.slice (some ⟨b1, off1, none⟩) st.aa.ag.length c1) := Zl hA3 1;have HA3 := Lib.hid hA3;have HO3 := Lib.hid ho3;have hb3l : b1 < g := Nat.lt_trans hbl1 hgm;have Q3 := Lib.hid q3;clear hx1 hrg1 hA3 ho3 q2 q3 b2 b3 ho HA hb hb2;generalize hcd : cnt ((st.ai ++ st.al).take j) a = cn at hca hcl;have HCD := Lib.hid hcd;clear hcd
         go_wp2_with fail
         go_region
         all_goals
          obtain ⟨ho4, _⟩ := HO3.out.stored a (.int .i64 ((cn : Int) + 1));have ho5 : World.ownsRow (w3.setCell ⟨g, a, none⟩ (.int .i64 ((cn : Int) + 1))).drew g 3 1 (.slice (some ⟨g, 0, none⟩) 64 64) 64 (XG ((st.ai ++ st.al).take (j + 1))) := by rw [hsn.out, ← Zan _ p a Ha.out ha1, HCD.out]; exact ho4
          have hb4 : Below w.heap.size w (w3.setCell ⟨g, a, none⟩ (.int .i64 ((cn : Int) + 1))).drew := (hb3.setCell (p := ⟨g, a, none⟩) (Nat.le_of_lt hgm) _).drew;have hA4 : ((w3.setCell ⟨g, a, none⟩ (.int .i64 ((cn : Int) + 1))).drew).heap[w.heap.size]? = some (.cells #[.slice a0 st.ac.length c0, .slice (some ⟨b1, off1, none⟩) st.aa.ag.length c1, .slice a2 st.aa.am.length c2, .int .i64 st.ar, .slice a4 st.ai.length c4, .int .i64 st.ax, .slice (some ⟨b, off, none⟩) st.al.length c6, .bool st.az] 39 (0, 0)) := QT HA3.out (p := ⟨g, a, none⟩) (Nat.ne_of_lt hgm) _;have q4 : ((w3.setCell ⟨g, a, none⟩ (.int .i64 ((cn : Int) + 1))).drew).heap[wr.heap.size]? = some (.cells #[.int .i64 p.aB, .int .i64 p.aj, .int .i64 p.av, .int .i64 p.aC, .int .i64 p.aq] 40 (0, 0)) := QT Q3.out (p := ⟨g, a, none⟩) (Nat.ne_of_gt hgw) _;have g4 : World.cell? (w3.setCell ⟨g, a, none⟩ (.int .i64 ((cn : Int) + 1))).drew ⟨b1, off1 + a, none⟩ = some (.int .i64 r) := (World.cell?_setCell_other _ _ _ _ (fun e => by injection e with e _ _; omega)).trans g1;have hca4 : World.cell? (w3.setCell ⟨g, a, none⟩ (.int .i64 ((cn : Int) + 1))).drew ⟨g, a, none⟩ = some (.int .i64 ((cn : Int) + 1)) := World.cell?_setCell_same _ _ _ hca;clear f0 f1 g1 p1 hca hfa ho4;generalize (w3.setCell ⟨g, a, none⟩ (.int .i64 ((cn : Int) + 1))).drew = w4 at ho5 hb4 hA4 q4 g4 hca4 ⊢;have f0 : w4.cell? ⟨wr.heap.size, 0, none⟩ = some (.int .i64 (a : Int)) := by rw [← Ha.out]; exact Zl q4 0
          have p1 : w4.cell? ⟨w.heap.size, 1, none⟩ = some (.slice (some ⟨b1, off1, none⟩) st.aa.ag.length c1) := Zl hA4 1;have HA4 := Lib.hid hA4;have HO5 := Lib.hid ho5;clear hA4 ho5 q4
          by_cases hmn : (cn : Int) + 1 ≤ r
          ·have hcmp : decide ((r : Int) < (cn : Int) + 1) = false := by simp; omega
           go_wp2_with fail
           go_quiet (fail)
           go_wp2
           go_roundw
           case rel => exact ⟨j + 1, by omega, by go_num, hstep.out a HR.out Ha.out (by rw [e1.out, HCD.out]; omega), HO5.out, hb4.trans (ZK _ _ _), HA4.out⟩
           case measure => simp [intOf]; omega
          ·have hcmp : decide ((r : Int) < (cn : Int) + 1) = true := by simp; omega
           go_wp2_with fail
           go_quiet (fail)
           go_wp2
           go_ret
           exact ⟨ZO (hmany.out a Ha.out ha1 (by rw [e1.out, HCD.out]; omega)).symm, hb4.trans (ZK _ _ _)⟩
    ·have hk' : j = st.ai.length + st.al.length := by omega
     have HJ := Lib.hid hk';clear hk';have hfin : Hid (st.ok = true) := by
      show _ = _;rw [hst.out, HOK.out, Bool.true_and];refine Vf.all (by rw [length_append, ← HJ.out]; exact hgiv) (fun i hi => (HSP.out.each i hi).1)
     have p4 : wr.cell? ⟨w.heap.size, 4, none⟩ = some (.slice a4 st.ai.length c4) := Zl hA 4;have p6 : wr.cell? ⟨w.heap.size, 6, none⟩ = some (.slice a6 st.al.length c6) := Zl hA 6
     go_wp2
     go_ret
     exact ⟨ZO hfin.out.symm, hb⟩
theorem Zc3 (v : Value) (st : Za) (w : World) (hr : Za.Reads w v st) (hf : st.Fit) (hi : -9223372036854775808 ≤ st.ar) :
  Calls prog 95 #[v] w fun e w' => e = .returned (.bool st.ok) ∧ Below w.heap.size w w' := by
 cases h : (st.ac.length == 64 && (st.aa.ok && (inB st.ar 1 900 && inB st.ax 0 (st.ar - 1))))
 ·have : st.ok = false := by
   unfold Za.ok;simp only [Bool.and_eq_false_iff] at h ⊢;rcases h with h | h | h | h <;> simp [h]
  rw [this];exact ZdO v st w hr hf hi h
 ·simp only [Bool.and_eq_true, beq_iff_eq] at h
  exact Zc2 v st w hr hf h.1 h.2.1 h.2.2.1 h.2.2.2
def Za.free (st : Za) (p : PtrD) : Za :=
 if p.hole then st else if p.aj ≤ st.ax then { st with al := st.al ++ [p] } else if p.aj < st.ar then { st with ai := st.ai ++ [p] } else { st with ac := Yk st.ac st.aa p.aB.toNat, aa := st.aa.give p.aB.toNat }
theorem Zca {st : Za} {p : PtrD} (h : p.hole = true) : st.free p = st := by unfold Za.free; rw [if_pos h]
theorem Zcb {st : Za} {p : PtrD} (h : p.hole = false) (h1 : p.aj ≤ st.ax) : st.free p = { st with al := st.al ++ [p] } := by unfold Za.free; rw [h, if_neg (by simp), if_pos h1]
theorem Zcc {st : Za} {p : PtrD} (h : p.hole = false) (h1 : ¬ p.aj ≤ st.ax) (h2 : p.aj < st.ar) : st.free p = { st with ai := st.ai ++ [p] } := by unfold Za.free; rw [h, if_neg (by simp), if_neg h1, if_pos h2]
theorem Zae {st : Za} {p : PtrD} (h : p.hole = false) (h1 : ¬ p.aj ≤ st.ax) (h2 : ¬ p.aj < st.ar) : st.free p = { st with ac := Yk st.ac st.aa p.aB.toNat, aa := st.aa.give p.aB.toNat } := by unfold Za.free; rw [h, if_neg (by simp), if_neg h1, if_neg h2]
theorem Zka (p : PtrD) : ∀ u ∈ p.cells, u.oneCell' = true := fun u hu => by
 simp only [PtrD.cells, mem_cons, List.not_mem_nil, or_false] at hu;rcases hu with rfl | rfl | rfl | rfl | rfl <;> rfl
end Go.Proofs.YthnbgnjpbmnelaaGreatDoor
