/- A part of the proof in YtfhdmfcfcgbgeaaGreatDoorNhX7. -/
import Derived.Deep.DeepCutAuto
import Derived.Laws.IdiomRangeMap
import Derived.Scope
import Derived.Shelf.Strings.Prefix
import Derived.Shelf.Strings.Repeat
import Derived.Test.YtfhdmfcfcgbgeaaGreatDoorNhX2
namespace Go.Proofs.YtfhdmfcfcgbgeaaGreatDoor
set_option maxHeartbeats 2000000
open Go.Proofs.Tryz
open _root_.ByteArray (size_extract)
open List (append_nil cons_append drop_zero flatMap_cons flatMap_nil getD_eq_getElem?_getD getElem?_eq_getElem length_append length_cons length_map length_nil length_set length_singleton length_take map_cons mem_append mem_cons mem_cons_of_mem mem_cons_self mem_flatMap mem_singleton nil_append replicate)
open Option (getD_some)
set_option linter.unusedVariables false
set_option linter.unusedSimpArgs false
set_option maxHeartbeats 1000000
set_option maxRecDepth 100000
open Go.RowKit
theorem Zkk (s : ByteArray) (c : Bool) (h : (s.size == 0) = c) : s.toList.isEmpty = c := by
 rw [← h, ByteArray.toList_eq, Bool.eq_iff_iff, List.isEmpty_iff, beq_iff_eq];show _ ↔ s.data.size = 0;rw [← Array.length_toList, List.length_eq_zero_iff]
theorem ZdX (v : Value) (st : Za) (w : World) (hr : Za.Reads w v st) (hf : st.Fit)
  (_hi : -9223372036854775808 ≤ st.av) (hbad : (st.ac.length == 64 && (st.aa.ok && (inB st.av 1 900 && inB st.az 0 (st.av - 1)))) = false) :
  Calls prog 83 #[v] w fun e w' => e = .returned (.bool false) ∧ Below w.heap.size w w' := by
 obtain ⟨a0, c0, a1, c1, a2, c2, a4, c4, a6, c6, rfl, r0, r1, r2, r4, r6⟩ := hr;have hl0 := hf.f0;have hb0 : Below w.heap.size w (w.alloc (.cells #[.slice a0 st.ac.length c0, .slice a1 st.aa.ag.length c1, .slice a2 st.aa.au.length c2, .int .i64 st.av, .slice a4 st.ak.length c4, .int .i64 st.az, .slice a6 st.ar.length c6, .bool st.aA] 44)) := (Below.refl _ _).alloc (Nat.le_refl _) _;have hA0 := XD w (.cells #[.slice a0 st.ac.length c0, .slice a1 st.aa.ag.length c1, .slice a2 st.aa.au.length c2, .int .i64 st.av, .slice a4 st.ak.length c4, .int .i64 st.az, .slice a6 st.ar.length c6, .bool st.aA] 44) _ rfl
 by_cases h0 : st.ac.length = 64
 rotate_left
 ·go_enter func83, ntmps83
  go_wp2
  go_ret
  exact ⟨rfl, hb0⟩
 have hl : ((st.ac.length : Int) != 64) = false := by simp [h0]
 have E := Lib.hid (Vs (.agg #[.slice a1 st.aa.ag.length c1, .slice a2 st.aa.au.length c2]) st.aa _ ⟨_, _, _, _, rfl, r1.below hb0, r2.below hb0⟩ ⟨hf.f1, hf.f2⟩);have H0 := Lib.hid h0;have HB := Lib.hid hbad;clear h0 hbad
 cases h1 : st.aa.ok
 ·go_enter func83, ntmps83
  go_wp2_with fail
  refine E.out.mono ?_;rintro e w1 ⟨rfl, b1⟩;rw [h1]
  go_wp2
  go_ret
  exact ⟨rfl, hb0.trans (b1.mono hb0.size)⟩
 ·cases h2 : inB st.av 1 900
  ·go_enter func83, ntmps83
   go_wp2_with fail
   refine E.out.mono ?_;rintro e w1 ⟨rfl, b1⟩;have hA1 := Z0 hA0 b1 (Nat.le_refl _);have p3 : w1.cell? ⟨w.heap.size, 3, none⟩ = some (.int .i64 st.av) := Zm hA1 3;rw [h1]
   go_wp2_with (go_at_call 25; refine (Yb _ _ _ _).mono ?_; rintro e w' ⟨rfl, rfl⟩)
   go_ret
   exact ⟨rfl, hb0.trans (b1.mono hb0.size)⟩
  ·cases h3 : inB st.az 0 (st.av - 1)
   ·have hbt := Zs h2
    go_enter func83, ntmps83
    go_wp2_with fail
    refine E.out.mono ?_;rintro e w1 ⟨rfl, b1⟩;have hA1 := Z0 hA0 b1 (Nat.le_refl _);have p3 : w1.cell? ⟨w.heap.size, 3, none⟩ = some (.int .i64 st.av) := Zm hA1 3;have p5 : w1.cell? ⟨w.heap.size, 5, none⟩ = some (.int .i64 st.az) := Zm hA1 5;rw [h1]
    go_wp2_with (go_at_call 25; refine (Yb _ _ _ _).mono ?_; rintro e w' ⟨rfl, rfl⟩)
    go_ret
    exact ⟨rfl, hb0.trans (b1.mono hb0.size)⟩
   ·exact absurd HB.out (by rw [H0.out, h1, h2, h3]; simp)
theorem Zdh (v : Value) (st : Za) (w : World) (hr : Za.Reads w v st) (hf : st.Fit)
  (h64 : st.ac.length = 64) (hsp : st.aa.ok = true) (htx : inB st.av 1 900 = true) (hkp : inB st.az 0 (st.av - 1) = true) :
  Calls prog 83 #[v] w fun e w' => e = .returned (.bool st.ok) ∧ Below w.heap.size w w' := by
 obtain ⟨a0, c0, a1, c1, a2, c2, a4, c4, a6, c6, rfl, r0, r1, r2, r4, r6⟩ := hr;have hl0 := hf.f0;have hb0 : Below w.heap.size w (w.alloc (.cells #[.slice a0 st.ac.length c0, .slice a1 st.aa.ag.length c1, .slice a2 st.aa.au.length c2, .int .i64 st.av, .slice a4 st.ak.length c4, .int .i64 st.az, .slice a6 st.ar.length c6, .bool st.aA] 44)) := (Below.refl _ _).alloc (Nat.le_refl _) _;have hA0 := XD w (.cells #[.slice a0 st.ac.length c0, .slice a1 st.aa.ag.length c1, .slice a2 st.aa.au.length c2, .int .i64 st.av, .slice a4 st.ak.length c4, .int .i64 st.az, .slice a6 st.ar.length c6, .bool st.aA] 44) _ rfl;have hl : ((st.ac.length : Int) != 64) = false := by simp [h64]
 have E := Lib.hid (Vs (.agg #[.slice a1 st.aa.ag.length c1, .slice a2 st.aa.au.length c2]) st.aa _ ⟨_, _, _, _, rfl, r1.below hb0, r2.below hb0⟩ ⟨hf.f1, hf.f2⟩);have hst : Hid (st.ok = (QJ st 64 && (st.ak.all (fun p => YI p (st.av - 1)) && (st.ar.all (fun p => YI p st.az) && VE st.aa.ag (st.ak ++ st.ar))))) := by show _ = _; simp [Za.ok, h64, hsp, htx, hkp]
 have hbt := Zs htx;have hbk := Zs hkp;have hg4 := hf.f4;have hg6 := hf.f6;have HSP := Lib.hid (Zq.ok_spec hsp);have H64 := Lib.hid h64;have hf2 := hf;clear h64 hf
 go_enter func83, ntmps83
 go_wp2_with fail
 refine E.out.mono ?_;rintro e w1 ⟨rfl, b1⟩;have hA1 := Z0 hA0 b1 (Nat.le_refl _);have hb1 := hb0.trans (b1.mono hb0.size);have p3 : w1.cell? ⟨w.heap.size, 3, none⟩ = some (.int .i64 st.av) := Zm hA1 3;have p5 : w1.cell? ⟨w.heap.size, 5, none⟩ = some (.int .i64 st.az) := Zm hA1 5;rw [hsp]
 go_wp2_with (go_at_call 25; refine (Yb _ _ _ _).mono ?_; rintro e w' ⟨rfl, rfl⟩)
 have HSPB := Lib.hid hsp;clear hsp htx hkp hb0 hA0 b1 p3 p5
 go_loopw [3] (fun i wr => ∃ k : Nat, k ≤ 64 ∧ i = .int .i64 k ∧ QJ st k = true ∧ Below w.heap.size w wr ∧ wr.heap[w.heap.size]? = some (.cells #[.slice a0 st.ac.length c0, .slice a1 st.aa.ag.length c1, .slice a2 st.aa.au.length c2, .int .i64 st.av, .slice a4 st.ak.length c4, .int .i64 st.az, .slice a6 st.ar.length c6, .bool st.aA] 44 (0, 0))) (fun i _ => 64 - (intOf i).toNat)
 case atStart => exact ⟨0, by omega, rfl, rfl, hb1, hA1⟩
 case round =>
  obtain ⟨k, hk, rfl, hok, hb, hA⟩ := hrel;have HOK := Lib.hid hok;clear hok hb1 hA1
  by_cases hlt : k < 64
  ·obtain ⟨b, off, s, hx0, rfl, hbl, hrg⟩ := r0.at_ k (by rw [H64.out]; exact hlt)
   have d0 := (Yn hrg hb hbl) 0 _ rfl;obtain ⟨b1, off1, r, hx1, rfl, hbl1, hrg1⟩ := r1.at_ k (by rw [HSP.out.refs]; exact hlt);have d1 := (Yn hrg1 hb hbl1) 0 _ rfl;obtain ⟨b2, off2, l, hx2, rfl, hbl2, hrg2⟩ := r2.at_ k (by rw [HSP.out.last]; exact hlt);have d2 := (Yn hrg2 hb hbl2) 0 _ rfl;simp only [Nat.mul_one, Nat.add_zero] at d0 d1 d2;have e0 := U9 (d := ByteArray.empty) hx0;have e1 := U9 (d := (0 : Int)) hx1;have e2 := U9 (d := (0 : Int)) hx2;have hrow : Hid (QI st k = (decide (s.size ≤ 128) && ((s.size == 0) == (r == 0) && decide (l ≤ st.av)))) := by show _ = _; unfold QI; rw [e0, e1, e2]
   have hlast : Hid (QI st k = false → st.ok = false) := fun h => by rw [hst.out, Zie hlt h]; rfl
   have hnext : Hid (QI st k = true → QJ st (k + 1) = true) := fun h => by rw [ZgO, HOK.out, h]; rfl
   have hlen0 : k < st.ac.length := by rw [H64.out]; exact hlt
   have hlen1 : k < st.aa.ag.length := by rw [HSP.out.refs]; exact hlt
   have hlen2 : k < st.aa.au.length := by rw [HSP.out.last]; exact hlt
   have p0 : wr.cell? ⟨w.heap.size, 0, none⟩ = some (.slice (some ⟨b, off, none⟩) st.ac.length c0) := Zm hA 0;have p1 : wr.cell? ⟨w.heap.size, 1, none⟩ = some (.slice (some ⟨b1, off1, none⟩) st.aa.ag.length c1) := Zm hA 1;have p2 : wr.cell? ⟨w.heap.size, 2, none⟩ = some (.slice (some ⟨b2, off2, none⟩) st.aa.au.length c2) := Zm hA 2;have p3 : wr.cell? ⟨w.heap.size, 3, none⟩ = some (.int .i64 st.av) := Zm hA 3;have HA := Lib.hid hA;clear hx0 hx1 hx2 hrg hrg1 hrg2 hA e0 e1 e2
   by_cases g1 : s.size ≤ 128
   rotate_left
   ·have HR : Hid (QI st k = false) := by show _ = _; rw [hrow.out]; simp [g1]
    have g1' : decide ((128 : Int) < (s.size : Int)) = true := by simp; omega
    go_wp2_with fail
    go_quiet (fail)
    go_wp2
    go_ret
    exact ⟨ZS (hlast.out HR.out).symm, hb.trans (ZP _ _ _)⟩
   ·have g1' : decide ((128 : Int) < (s.size : Int)) = false := by simp; omega
    have e1 : ∀ (cb : Bool), (s.size == 0) = cb → s.toList.isEmpty = cb := fun cb h => Zkk s cb h
    cases gs : (s.size == 0)
    all_goals
     have gs2 := e1 _ gs;clear e1
     cases gr : (r == 0)
    ·by_cases g3 : l ≤ st.av
     ·have g3' : decide (st.av < l) = false := by simp; omega
      have HR : Hid (QI st k = true) := by show _ = _; rw [hrow.out]; simp [g1, g3, gs, gr]
      go_wp2_with fail
      go_quiet (fail)
      go_wp2
      go_roundw
      case rel => exact ⟨k + 1, by omega, by go_num, hnext.out HR.out, hb.trans (ZP _ _ _), HA.out⟩
      case measure => simp [intOf]; omega
     ·have g3' : decide (st.av < l) = true := by simp; omega
      have HR : Hid (QI st k = false) := by show _ = _; rw [hrow.out]; simp [g3]
      go_wp2_with fail
      go_quiet (fail)
      go_wp2
      go_ret
      exact ⟨ZS (hlast.out HR.out).symm, hb.trans (ZP _ _ _)⟩
    ·have HR : Hid (QI st k = false) := by show _ = _; rw [hrow.out]; simp [gs, gr]
     go_wp2_with fail
     go_quiet (fail)
     go_wp2
     go_ret
     exact ⟨ZS (hlast.out HR.out).symm, hb.trans (ZP _ _ _)⟩
    ·have HR : Hid (QI st k = false) := by show _ = _; rw [hrow.out]; simp [gs, gr]
     go_wp2_with fail
     go_quiet (fail)
     go_wp2
     go_ret
     exact ⟨ZS (hlast.out HR.out).symm, hb.trans (ZP _ _ _)⟩
    ·by_cases g3 : l ≤ st.av
     ·have g3' : decide (st.av < l) = false := by simp; omega
      have HR : Hid (QI st k = true) := by show _ = _; rw [hrow.out]; simp [g1, g3, gs, gr]
      go_wp2_with fail
      go_quiet (fail)
      go_wp2
      go_roundw
      case rel => exact ⟨k + 1, by omega, by go_num, hnext.out HR.out, hb.trans (ZP _ _ _), HA.out⟩
      case measure => simp [intOf]; omega
     ·have g3' : decide (st.av < l) = true := by simp; omega
      have HR : Hid (QI st k = false) := by show _ = _; rw [hrow.out]; simp [g3]
      go_wp2_with fail
      go_quiet (fail)
      go_wp2
      go_ret
      exact ⟨ZS (hlast.out HR.out).symm, hb.trans (ZP _ _ _)⟩
  ·have hk' : k = 64 := by omega
   subst hk';obtain ⟨i0, hi, hz0, hz1, hz2⟩ := info_parts Tryz.infoIntS
   go_wp2_with (refine wpList_make_full _ rfl (.const (.int .i64 64)) (.const (.int .i64 64)) 39 rfl wr.heap.size 3 i0 _ 1 Tryz.underlying39 hi hz0 hz1 .i64 .i64 _ _ 64 rfl rfl rfl rfl ?b2 ?b3 ?b4 ?_)
   case b2 => rw [hz2]; omega
   case b3 => unfold maxLen; omega
   case b4 => exact Nat.le_refl _
   intro wm hown hg;have hbm : Below w.heap.size w wm := hb.grown hg hb.size (by simp);have hAm := ZjX hA hg (by simp);have hgm : w.heap.size < wr.heap.size := VC hA;have hown : wm.ownsRow wr.heap.size 3 1 (.slice (some ⟨wr.heap.size, 0, none⟩) 64 64) 64 (XV ((st.ak ++ st.ar).take 0)) := by rw [← ZjZ]; exact hown
   generalize wr.heap.size = g at hown hgm ⊢;clear hb hA hg hi hz0 hz1 hz2 hlt hk r0 r2 E
   go_wp2
   go_loopw [5] (fun i wr => ∃ j : Nat, j ≤ st.ak.length + st.ar.length ∧ i = .int .i64 j ∧ Vu st j ∧ wr.ownsRow g 3 1 (.slice (some ⟨g, 0, none⟩) 64 64) 64 (XV ((st.ak ++ st.ar).take j)) ∧ Below w.heap.size w wr ∧ wr.heap[w.heap.size]? = some (.cells #[.slice a0 st.ac.length c0, .slice a1 st.aa.ag.length c1, .slice a2 st.aa.au.length c2, .int .i64 st.av, .slice a4 st.ak.length c4, .int .i64 st.az, .slice a6 st.ar.length c6, .bool st.aA] 44 (0, 0))) (fun i _ => st.ak.length + st.ar.length - (intOf i).toNat)
   case atStart => exact ⟨0, Nat.zero_le _, rfl, Vu.zero st, hown, hbm, hAm⟩
   case round =>
    obtain ⟨j, hj, rfl, hgiv, ho, hb, hA⟩ := hrel;clear hown hbm hAm
    by_cases hlt : j < st.ak.length + st.ar.length
    ·by_cases hgo : j < st.ak.length
     ·obtain ⟨b, off, p, hp, rfl, hbl, hrg⟩ := r4.at_ (j) (by omega)
      obtain ⟨d0, d1, d2, d3, d4⟩ := PtrD.at_ (Yn hrg hb hbl);have hout : Vt st j = some p := by unfold Vt; rw [List.getElem?_append_left hgo]; exact hp
      have hmost : JL st j = st.av - 1 := by unfold JL; rw [if_pos hgo]
      have hbad : Hid (YI p (st.av - 1) = false → st.ok = false) := fun h => ZeW hout (by rw [hmost]; exact h)
      have hmany : Hid (∀ a : Nat, p.aC = (a : Int) → a < 64 → st.aa.ag.getD a 0 < ((cnt ((st.ak ++ st.ar).take j) a + 1 : Nat) : Int) → st.ok = false) := fun a h1 h2 h3 => Zdx hout a h1 h2 h3
      have hstep : Hid (∀ a : Nat, YI p (st.av - 1) = true → p.aC = (a : Int) → ((cnt ((st.ak ++ st.ar).take j) a + 1 : Nat) : Int) ≤ st.aa.ag.getD a 0 → Vu st (j + 1)) := fun a h1 h2 h3 => hgiv.succ hout (by rw [hmost]; exact h1) a h2 h3
      have hsn : Hid ((st.ak ++ st.ar).take (j + 1) = (st.ak ++ st.ar).take j ++ [p]) := by show _ = _; obtain ⟨hj2, hpe⟩ := List.getElem?_eq_some_iff.1 hout; rw [List.take_succ_eq_append_getElem hj2]; unfold Vt at hout; rw [hpe]
      have hcj : ((st.ak ++ st.ar).take j).length ≤ 2097152 := by rw [length_take, length_append]; omega
      have hgiv2 := Lib.hid hgiv;have p1 : wr.cell? ⟨w.heap.size, 1, none⟩ = some (.slice a1 st.aa.ag.length c1) := Zm hA 1;have p3 : wr.cell? ⟨w.heap.size, 3, none⟩ = some (.int .i64 st.av) := Zm hA 3;have p4 : wr.cell? ⟨w.heap.size, 4, none⟩ = some (.slice (some ⟨b, off, none⟩) st.ak.length c4) := Zm hA 4;have p5 : wr.cell? ⟨w.heap.size, 5, none⟩ = some (.int .i64 st.az) := Zm hA 5;have p6 : wr.cell? ⟨w.heap.size, 6, none⟩ = some (.slice a6 st.ar.length c6) := Zm hA 6;have HA := Lib.hid hA;have hw0 := VC hA;have hbw : b < wr.heap.size := Nat.lt_of_lt_of_le hbl hb.size;clear hp hout hmost hrg hgiv hA;have hin : Hid (YI p (st.av - 1) = (p.ok && (!p.hole && decide (p.al ≤ st.av - 1)))) := rfl
      cases h1 : p.ok
      ·have HR : Hid (YI p (st.av - 1) = false) := by show _ = _; rw [hin.out, h1]; rfl
       go_wp2_with fail
       refine (ZR p _).mono ?_;rintro e w2 ⟨rfl, b2⟩;have hb2 := (hb.alloc hb.size _).trans (b2.mono (hb.alloc hb.size _).size);have q2 := Z0 (XD wr (.cells #[.int .i64 p.aC, .int .i64 p.al, .int .i64 p.am, .int .i64 p.aB, .int .i64 p.aq] 24) _ rfl) b2 (Nat.le_refl _);rw [h1]
       go_wp2
       go_ret
       exact ⟨ZS (hbad.out HR.out).symm, hb2⟩
      ·cases h2 : p.hole
       rotate_left
       ·have HR : Hid (YI p (st.av - 1) = false) := by show _ = _; rw [hin.out, h1, h2]; rfl
        go_wp2_with fail
        refine (ZR p _).mono ?_;rintro e w2 ⟨rfl, b2⟩;have hb2 := (hb.alloc hb.size _).trans (b2.mono (hb.alloc hb.size _).size);have q2 := Z0 (XD wr (.cells #[.int .i64 p.aC, .int .i64 p.al, .int .i64 p.am, .int .i64 p.aB, .int .i64 p.aq] 24) _ rfl) b2 (Nat.le_refl _);rw [h1];have f0 : w2.cell? ⟨wr.heap.size, 0, none⟩ = some (.int .i64 p.aC) := Zm q2 0;have f1 : w2.cell? ⟨wr.heap.size, 1, none⟩ = some (.int .i64 p.al) := Zm q2 1;have f2 : w2.cell? ⟨wr.heap.size, 2, none⟩ = some (.int .i64 p.am) := Zm q2 2;have f3 : w2.cell? ⟨wr.heap.size, 3, none⟩ = some (.int .i64 p.aB) := Zm q2 3;have f4 : w2.cell? ⟨wr.heap.size, 4, none⟩ = some (.int .i64 p.aq) := Zm q2 4
        go_wp2_with fail
        refine (ZA p _).mono ?_;rintro e w3 ⟨rfl, b3⟩;have hb3 := hb2.trans (b3.mono hb2.size);have q3 := Z0 q2 b3 (Nat.le_refl _);clear f0 f1 f2 f3 f4;rw [h2]
        go_wp2
        go_ret
        exact ⟨ZS (hbad.out HR.out).symm, hb3⟩
       ·by_cases h3 : p.al ≤ st.av - 1
        rotate_left
        ·have HR : Hid (YI p (st.av - 1) = false) := by show _ = _; rw [hin.out, h1, h2]; simp [h3]
         go_wp2_with fail
         refine (ZR p _).mono ?_;rintro e w2 ⟨rfl, b2⟩;have hb2 := (hb.alloc hb.size _).trans (b2.mono (hb.alloc hb.size _).size);have q2 := Z0 (XD wr (.cells #[.int .i64 p.aC, .int .i64 p.al, .int .i64 p.am, .int .i64 p.aB, .int .i64 p.aq] 24) _ rfl) b2 (Nat.le_refl _);rw [h1];have f0 : w2.cell? ⟨wr.heap.size, 0, none⟩ = some (.int .i64 p.aC) := Zm q2 0;have f1 : w2.cell? ⟨wr.heap.size, 1, none⟩ = some (.int .i64 p.al) := Zm q2 1;have f2 : w2.cell? ⟨wr.heap.size, 2, none⟩ = some (.int .i64 p.am) := Zm q2 2;have f3 : w2.cell? ⟨wr.heap.size, 3, none⟩ = some (.int .i64 p.aB) := Zm q2 3;have f4 : w2.cell? ⟨wr.heap.size, 4, none⟩ = some (.int .i64 p.aq) := Zm q2 4
         go_wp2_with fail
         refine (ZA p _).mono ?_;rintro e w3 ⟨rfl, b3⟩;have hb3 := hb2.trans (b3.mono hb2.size);have q3 := Z0 q2 b3 (Nat.le_refl _);clear f0 f1 f2 f3 f4;rw [h2];have f1 : w3.cell? ⟨wr.heap.size, 1, none⟩ = some (.int .i64 p.al) := Zm q3 1
         go_wp2
         go_ret
         exact ⟨ZS (hbad.out HR.out).symm, hb3⟩
        ·have HR : Hid (YI p (st.av - 1) = true) := by show _ = _; rw [hin.out, h1, h2]; simp [h3]
         have hat := Zbq HR.out;obtain ⟨a, ha⟩ : ∃ a : Nat, p.aC = (a : Int) := ⟨p.aC.toNat, by omega⟩;have ha1 : a < 64 := by omega
         have ha0 : 8 ≤ a := by omega
         have Ha := Lib.hid ha;clear ha
         go_wp2_with fail
         refine (ZR p _).mono ?_;rintro e w2 ⟨rfl, b2⟩;have hb2 := (hb.alloc hb.size _).trans (b2.mono (hb.alloc hb.size _).size);have q2 := Z0 (XD wr (.cells #[.int .i64 p.aC, .int .i64 p.al, .int .i64 p.am, .int .i64 p.aB, .int .i64 p.aq] 24) _ rfl) b2 (Nat.le_refl _);rw [h1];have f0 : w2.cell? ⟨wr.heap.size, 0, none⟩ = some (.int .i64 p.aC) := Zm q2 0;have f1 : w2.cell? ⟨wr.heap.size, 1, none⟩ = some (.int .i64 p.al) := Zm q2 1;have f2 : w2.cell? ⟨wr.heap.size, 2, none⟩ = some (.int .i64 p.am) := Zm q2 2;have f3 : w2.cell? ⟨wr.heap.size, 3, none⟩ = some (.int .i64 p.aB) := Zm q2 3;have f4 : w2.cell? ⟨wr.heap.size, 4, none⟩ = some (.int .i64 p.aq) := Zm q2 4
         go_wp2_with fail
         refine (ZA p _).mono ?_;rintro e w3 ⟨rfl, b3⟩;have hb3 := hb2.trans (b3.mono hb2.size);have q3 := Z0 q2 b3 (Nat.le_refl _);clear f0 f1 f2 f3 f4;rw [h2];have f0 : w3.cell? ⟨wr.heap.size, 0, none⟩ = some (.int .i64 (a : Int)) := by rw [← Ha.out]; exact Zm q3 0
         have f1 : w3.cell? ⟨wr.heap.size, 1, none⟩ = some (.int .i64 p.al) := Zm q3 1;have hw3 : wr.heap.size < w3.heap.size := VC q3;have hA3 := Z0 (Z0 (ZeT HA.out (.cells #[.int .i64 p.aC, .int .i64 p.al, .int .i64 p.am, .int .i64 p.aB, .int .i64 p.aq] 24)) b2 (Nat.le_refl _)) b3 (Nat.le_refl _);have ho3 := U8 (U8 (ho.alloc (.cells #[.int .i64 p.aC, .int .i64 p.al, .int .i64 p.am, .int .i64 p.aB, .int .i64 p.aq] 24)) b2 (Nat.le_refl _)) b3 (Nat.le_refl _);have hca : w3.cell? ⟨g, a, none⟩ = some (.int .i64 (cnt ((st.ak ++ st.ar).take j) a : Nat)) := by rw [ho3.cellAt a (by omega)]; exact QH _ _ ha1
         have hfa := ho3.frozenAt a;have hcl := Zlb ((st.ak ++ st.ar).take j) a;obtain ⟨b1, off1, r, hx1, rfl, hbl1, hrg1⟩ := r1.at_ a (by rw [HSP.out.refs]; exact ha1);have g1 := (Yn hrg1 hb3 hbl1) 0 _ rfl;simp only [Nat.mul_one, Nat.add_zero] at g1;have e1 := Lib.hid (U9 (d := (0 : Int)) hx1);have hl1 : a < st.aa.ag.length := by rw [HSP.out.refs]; exact ha1
         have hgw : g < wr.heap.size := (ho.lt g (by simp [Value.ownBlock])).2;have p1 : w3.cell? ⟨w.heap.size, 1, none⟩ = some (.slice (some ⟨b1, off1, none⟩) st.aa.ag.length c1) := Zm hA3 1;have HA3 := Lib.hid hA3;have HO3 := Lib.hid ho3;have hb3l : b1 < g := Nat.lt_trans hbl1 hgm;have Q3 := Lib.hid q3;clear hx1 hrg1 hA3 ho3 q2 q3 b2 b3 ho HA hb hb2;generalize hcd : cnt ((st.ak ++ st.ar).take j) a = cn at hca hcl;have HCD := Lib.hid hcd;clear hcd
         go_wp2_with fail
         go_region
         all_goals
          obtain ⟨ho4, _⟩ := HO3.out.stored a (.int .i64 ((cn : Int) + 1));have ho5 : World.ownsRow (w3.setCell ⟨g, a, none⟩ (.int .i64 ((cn : Int) + 1))).drew g 3 1 (.slice (some ⟨g, 0, none⟩) 64 64) 64 (XV ((st.ak ++ st.ar).take (j + 1))) := by rw [hsn.out, ← ZaE _ p a Ha.out ha1, HCD.out]; exact ho4
          have hb4 : Below w.heap.size w (w3.setCell ⟨g, a, none⟩ (.int .i64 ((cn : Int) + 1))).drew := (hb3.setCell (p := ⟨g, a, none⟩) (Nat.le_of_lt hgm) _).drew;have hA4 : ((w3.setCell ⟨g, a, none⟩ (.int .i64 ((cn : Int) + 1))).drew).heap[w.heap.size]? = some (.cells #[.slice a0 st.ac.length c0, .slice (some ⟨b1, off1, none⟩) st.aa.ag.length c1, .slice a2 st.aa.au.length c2, .int .i64 st.av, .slice (some ⟨b, off, none⟩) st.ak.length c4, .int .i64 st.az, .slice a6 st.ar.length c6, .bool st.aA] 44 (0, 0)) := Ja HA3.out (p := ⟨g, a, none⟩) (Nat.ne_of_lt hgm) _;have q4 : ((w3.setCell ⟨g, a, none⟩ (.int .i64 ((cn : Int) + 1))).drew).heap[wr.heap.size]? = some (.cells #[.int .i64 p.aC, .int .i64 p.al, .int .i64 p.am, .int .i64 p.aB, .int .i64 p.aq] 24 (0, 0)) := Ja Q3.out (p := ⟨g, a, none⟩) (Nat.ne_of_gt hgw) _;have g4 : World.cell? (w3.setCell ⟨g, a, none⟩ (.int .i64 ((cn : Int) + 1))).drew ⟨b1, off1 + a, none⟩ = some (.int .i64 r) := (World.cell?_setCell_other _ _ _ _ (fun e => by injection e with e _ _; omega)).trans g1;have hca4 : World.cell? (w3.setCell ⟨g, a, none⟩ (.int .i64 ((cn : Int) + 1))).drew ⟨g, a, none⟩ = some (.int .i64 ((cn : Int) + 1)) := World.cell?_setCell_same _ _ _ hca;clear f0 f1 g1 p1 hca hfa ho4;generalize (w3.setCell ⟨g, a, none⟩ (.int .i64 ((cn : Int) + 1))).drew = w4 at ho5 hb4 hA4 q4 g4 hca4 ⊢;have f0 : w4.cell? ⟨wr.heap.size, 0, none⟩ = some (.int .i64 (a : Int)) := by rw [← Ha.out]; exact Zm q4 0
          have p1 : w4.cell? ⟨w.heap.size, 1, none⟩ = some (.slice (some ⟨b1, off1, none⟩) st.aa.ag.length c1) := Zm hA4 1;have HA4 := Lib.hid hA4;have HO5 := Lib.hid ho5;clear hA4 ho5 q4
          by_cases hmn : (cn : Int) + 1 ≤ r
          ·have hcmp : decide ((r : Int) < (cn : Int) + 1) = false := by simp; omega
           go_wp2_with fail
           go_quiet (fail)
           go_wp2
           go_roundw
           case rel => exact ⟨j + 1, by omega, by go_num, hstep.out a HR.out Ha.out (by rw [e1.out, HCD.out]; omega), HO5.out, hb4.trans (ZP _ _ _), HA4.out⟩
           case measure => simp [intOf]; omega
          ·have hcmp : decide ((r : Int) < (cn : Int) + 1) = true := by simp; omega
           go_wp2_with fail
           go_quiet (fail)
           go_wp2
           go_ret
           exact ⟨ZS (hmany.out a Ha.out ha1 (by rw [e1.out, HCD.out]; omega)).symm, hb4.trans (ZP _ _ _)⟩
     ·obtain ⟨b, off, p, hp, rfl, hbl, hrg⟩ := r6.at_ (j - st.ak.length) (by omega)
      obtain ⟨d0, d1, d2, d3, d4⟩ := PtrD.at_ (Yn hrg hb hbl);have hout : Vt st j = some p := by unfold Vt; rw [List.getElem?_append_right (by omega)]; exact hp
      have hmost : JL st j = st.az := by unfold JL; rw [if_neg hgo]
      have hbad : Hid (YI p (st.az) = false → st.ok = false) := fun h => ZeW hout (by rw [hmost]; exact h)
      have hmany : Hid (∀ a : Nat, p.aC = (a : Int) → a < 64 → st.aa.ag.getD a 0 < ((cnt ((st.ak ++ st.ar).take j) a + 1 : Nat) : Int) → st.ok = false) := fun a h1 h2 h3 => Zdx hout a h1 h2 h3
      have hstep : Hid (∀ a : Nat, YI p (st.az) = true → p.aC = (a : Int) → ((cnt ((st.ak ++ st.ar).take j) a + 1 : Nat) : Int) ≤ st.aa.ag.getD a 0 → Vu st (j + 1)) := fun a h1 h2 h3 => hgiv.succ hout (by rw [hmost]; exact h1) a h2 h3
      have hsn : Hid ((st.ak ++ st.ar).take (j + 1) = (st.ak ++ st.ar).take j ++ [p]) := by show _ = _; obtain ⟨hj2, hpe⟩ := List.getElem?_eq_some_iff.1 hout; rw [List.take_succ_eq_append_getElem hj2]; unfold Vt at hout; rw [hpe]
      have hcj : ((st.ak ++ st.ar).take j).length ≤ 2097152 := by rw [length_take, length_append]; omega
      have hgiv2 := Lib.hid hgiv;have p1 : wr.cell? ⟨w.heap.size, 1, none⟩ = some (.slice a1 st.aa.ag.length c1) := Zm hA 1;have p3 : wr.cell? ⟨w.heap.size, 3, none⟩ = some (.int .i64 st.av) := Zm hA 3;have p4 : wr.cell? ⟨w.heap.size, 4, none⟩ = some (.slice a4 st.ak.length c4) := Zm hA 4;have p5 : wr.cell? ⟨w.heap.size, 5, none⟩ = some (.int .i64 st.az) := Zm hA 5;have p6 : wr.cell? ⟨w.heap.size, 6, none⟩ = some (.slice (some ⟨b, off, none⟩) st.ar.length c6) := Zm hA 6;have HA := Lib.hid hA;have hw0 := VC hA;have hbw : b < wr.heap.size := Nat.lt_of_lt_of_le hbl hb.size;clear hp hout hmost hrg hgiv hA;have hin : Hid (YI p (st.az) = (p.ok && (!p.hole && decide (p.al ≤ st.az)))) := rfl
      cases h1 : p.ok
      ·have HR : Hid (YI p (st.az) = false) := by show _ = _; rw [hin.out, h1]; rfl
       go_wp2_with fail
       refine (ZR p _).mono ?_;rintro e w2 ⟨rfl, b2⟩;have hb2 := (hb.alloc hb.size _).trans (b2.mono (hb.alloc hb.size _).size);have q2 := Z0 (XD wr (.cells #[.int .i64 p.aC, .int .i64 p.al, .int .i64 p.am, .int .i64 p.aB, .int .i64 p.aq] 24) _ rfl) b2 (Nat.le_refl _);rw [h1]
       go_wp2
       go_ret
       exact ⟨ZS (hbad.out HR.out).symm, hb2⟩
      ·cases h2 : p.hole
       rotate_left
       ·have HR : Hid (YI p (st.az) = false) := by show _ = _; rw [hin.out, h1, h2]; rfl
        go_wp2_with fail
        refine (ZR p _).mono ?_;rintro e w2 ⟨rfl, b2⟩;have hb2 := (hb.alloc hb.size _).trans (b2.mono (hb.alloc hb.size _).size);have q2 := Z0 (XD wr (.cells #[.int .i64 p.aC, .int .i64 p.al, .int .i64 p.am, .int .i64 p.aB, .int .i64 p.aq] 24) _ rfl) b2 (Nat.le_refl _);rw [h1];have f0 : w2.cell? ⟨wr.heap.size, 0, none⟩ = some (.int .i64 p.aC) := Zm q2 0;have f1 : w2.cell? ⟨wr.heap.size, 1, none⟩ = some (.int .i64 p.al) := Zm q2 1;have f2 : w2.cell? ⟨wr.heap.size, 2, none⟩ = some (.int .i64 p.am) := Zm q2 2;have f3 : w2.cell? ⟨wr.heap.size, 3, none⟩ = some (.int .i64 p.aB) := Zm q2 3;have f4 : w2.cell? ⟨wr.heap.size, 4, none⟩ = some (.int .i64 p.aq) := Zm q2 4
        go_wp2_with fail
        refine (ZA p _).mono ?_;rintro e w3 ⟨rfl, b3⟩;have hb3 := hb2.trans (b3.mono hb2.size);have q3 := Z0 q2 b3 (Nat.le_refl _);clear f0 f1 f2 f3 f4;rw [h2]
        go_wp2
        go_ret
        exact ⟨ZS (hbad.out HR.out).symm, hb3⟩
       ·by_cases h3 : p.al ≤ st.az
        rotate_left
        ·have HR : Hid (YI p (st.az) = false) := by show _ = _; rw [hin.out, h1, h2]; simp [h3]
         go_wp2_with fail
         refine (ZR p _).mono ?_;rintro e w2 ⟨rfl, b2⟩;have hb2 := (hb.alloc hb.size _).trans (b2.mono (hb.alloc hb.size _).size);have q2 := Z0 (XD wr (.cells #[.int .i64 p.aC, .int .i64 p.al, .int .i64 p.am, .int .i64 p.aB, .int .i64 p.aq] 24) _ rfl) b2 (Nat.le_refl _);rw [h1];have f0 : w2.cell? ⟨wr.heap.size, 0, none⟩ = some (.int .i64 p.aC) := Zm q2 0;have f1 : w2.cell? ⟨wr.heap.size, 1, none⟩ = some (.int .i64 p.al) := Zm q2 1;have f2 : w2.cell? ⟨wr.heap.size, 2, none⟩ = some (.int .i64 p.am) := Zm q2 2;have f3 : w2.cell? ⟨wr.heap.size, 3, none⟩ = some (.int .i64 p.aB) := Zm q2 3;have f4 : w2.cell? ⟨wr.heap.size, 4, none⟩ = some (.int .i64 p.aq) := Zm q2 4
         go_wp2_with fail
         refine (ZA p _).mono ?_;rintro e w3 ⟨rfl, b3⟩;have hb3 := hb2.trans (b3.mono hb2.size);have q3 := Z0 q2 b3 (Nat.le_refl _);clear f0 f1 f2 f3 f4;rw [h2];have f1 : w3.cell? ⟨wr.heap.size, 1, none⟩ = some (.int .i64 p.al) := Zm q3 1
         go_wp2
         go_ret
         exact ⟨ZS (hbad.out HR.out).symm, hb3⟩
        ·have HR : Hid (YI p (st.az) = true) := by show _ = _; rw [hin.out, h1, h2]; simp [h3]
         have hat := Zbq HR.out;obtain ⟨a, ha⟩ : ∃ a : Nat, p.aC = (a : Int) := ⟨p.aC.toNat, by omega⟩;have ha1 : a < 64 := by omega
         have ha0 : 8 ≤ a := by omega
         have Ha := Lib.hid ha;clear ha
         go_wp2_with fail
         refine (ZR p _).mono ?_;rintro e w2 ⟨rfl, b2⟩;have hb2 := (hb.alloc hb.size _).trans (b2.mono (hb.alloc hb.size _).size);have q2 := Z0 (XD wr (.cells #[.int .i64 p.aC, .int .i64 p.al, .int .i64 p.am, .int .i64 p.aB, .int .i64 p.aq] 24) _ rfl) b2 (Nat.le_refl _);rw [h1];have f0 : w2.cell? ⟨wr.heap.size, 0, none⟩ = some (.int .i64 p.aC) := Zm q2 0;have f1 : w2.cell? ⟨wr.heap.size, 1, none⟩ = some (.int .i64 p.al) := Zm q2 1;have f2 : w2.cell? ⟨wr.heap.size, 2, none⟩ = some (.int .i64 p.am) := Zm q2 2;have f3 : w2.cell? ⟨wr.heap.size, 3, none⟩ = some (.int .i64 p.aB) := Zm q2 3;have f4 : w2.cell? ⟨wr.heap.size, 4, none⟩ = some (.int .i64 p.aq) := Zm q2 4
         go_wp2_with fail
         refine (ZA p _).mono ?_;rintro e w3 ⟨rfl, b3⟩;have hb3 := hb2.trans (b3.mono hb2.size);have q3 := Z0 q2 b3 (Nat.le_refl _);clear f0 f1 f2 f3 f4;rw [h2];have f0 : w3.cell? ⟨wr.heap.size, 0, none⟩ = some (.int .i64 (a : Int)) := by rw [← Ha.out]; exact Zm q3 0
         have f1 : w3.cell? ⟨wr.heap.size, 1, none⟩ = some (.int .i64 p.al) := Zm q3 1;have hw3 : wr.heap.size < w3.heap.size := VC q3;have hA3 := Z0 (Z0 (ZeT HA.out (.cells #[.int .i64 p.aC, .int .i64 p.al, .int .i64 p.am, .int .i64 p.aB, .int .i64 p.aq] 24)) b2 (Nat.le_refl _)) b3 (Nat.le_refl _);have ho3 := U8 (U8 (ho.alloc (.cells #[.int .i64 p.aC, .int .i64 p.al, .int .i64 p.am, .int .i64 p.aB, .int .i64 p.aq] 24)) b2 (Nat.le_refl _)) b3 (Nat.le_refl _);have hca : w3.cell? ⟨g, a, none⟩ = some (.int .i64 (cnt ((st.ak ++ st.ar).take j) a : Nat)) := by rw [ho3.cellAt a (by omega)]; exact QH _ _ ha1
         have hfa := ho3.frozenAt a;have hcl := Zlb ((st.ak ++ st.ar).take j) a;obtain ⟨b1, off1, r, hx1, rfl, hbl1, hrg1⟩ := r1.at_ a (by rw [HSP.out.refs]; exact ha1);have g1 := (Yn hrg1 hb3 hbl1) 0 _ rfl;simp only [Nat.mul_one, Nat.add_zero] at g1;have e1 := Lib.hid (U9 (d := (0 : Int)) hx1);have hl1 : a < st.aa.ag.length := by rw [HSP.out.refs]; exact ha1
         have hgw : g < wr.heap.size := (ho.lt g (by simp [Value.ownBlock])).2;have p1 : w3.cell? ⟨w.heap.size, 1, none⟩ = some (.slice (some ⟨b1, off1, none⟩) st.aa.ag.length c1) := Zm hA3 1;have HA3 := Lib.hid hA3;have HO3 := Lib.hid ho3;have hb3l : b1 < g := Nat.lt_trans hbl1 hgm;have Q3 := Lib.hid q3;clear hx1 hrg1 hA3 ho3 q2 q3 b2 b3 ho HA hb hb2;generalize hcd : cnt ((st.ak ++ st.ar).take j) a = cn at hca hcl;have HCD := Lib.hid hcd;clear hcd
         go_wp2_with fail
         go_region
         all_goals
          obtain ⟨ho4, _⟩ := HO3.out.stored a (.int .i64 ((cn : Int) + 1));have ho5 : World.ownsRow (w3.setCell ⟨g, a, none⟩ (.int .i64 ((cn : Int) + 1))).drew g 3 1 (.slice (some ⟨g, 0, none⟩) 64 64) 64 (XV ((st.ak ++ st.ar).take (j + 1))) := by rw [hsn.out, ← ZaE _ p a Ha.out ha1, HCD.out]; exact ho4
          have hb4 : Below w.heap.size w (w3.setCell ⟨g, a, none⟩ (.int .i64 ((cn : Int) + 1))).drew := (hb3.setCell (p := ⟨g, a, none⟩) (Nat.le_of_lt hgm) _).drew;have hA4 : ((w3.setCell ⟨g, a, none⟩ (.int .i64 ((cn : Int) + 1))).drew).heap[w.heap.size]? = some (.cells #[.slice a0 st.ac.length c0, .slice (some ⟨b1, off1, none⟩) st.aa.ag.length c1, .slice a2 st.aa.au.length c2, .int .i64 st.av, .slice a4 st.ak.length c4, .int .i64 st.az, .slice (some ⟨b, off, none⟩) st.ar.length c6, .bool st.aA] 44 (0, 0)) := Ja HA3.out (p := ⟨g, a, none⟩) (Nat.ne_of_lt hgm) _;have q4 : ((w3.setCell ⟨g, a, none⟩ (.int .i64 ((cn : Int) + 1))).drew).heap[wr.heap.size]? = some (.cells #[.int .i64 p.aC, .int .i64 p.al, .int .i64 p.am, .int .i64 p.aB, .int .i64 p.aq] 24 (0, 0)) := Ja Q3.out (p := ⟨g, a, none⟩) (Nat.ne_of_gt hgw) _;have g4 : World.cell? (w3.setCell ⟨g, a, none⟩ (.int .i64 ((cn : Int) + 1))).drew ⟨b1, off1 + a, none⟩ = some (.int .i64 r) := (World.cell?_setCell_other _ _ _ _ (fun e => by injection e with e _ _; omega)).trans g1;have hca4 : World.cell? (w3.setCell ⟨g, a, none⟩ (.int .i64 ((cn : Int) + 1))).drew ⟨g, a, none⟩ = some (.int .i64 ((cn : Int) + 1)) := World.cell?_setCell_same _ _ _ hca;clear f0 f1 g1 p1 hca hfa ho4;generalize (w3.setCell ⟨g, a, none⟩ (.int .i64 ((cn : Int) + 1))).drew = w4 at ho5 hb4 hA4 q4 g4 hca4 ⊢;have f0 : w4.cell? ⟨wr.heap.size, 0, none⟩ = some (.int .i64 (a : Int)) := by rw [← Ha.out]; exact Zm q4 0
          have p1 : w4.cell? ⟨w.heap.size, 1, none⟩ = some (.slice (some ⟨b1, off1, none⟩) st.aa.ag.length c1) := Zm hA4 1;have HA4 := Lib.hid hA4;have HO5 := Lib.hid ho5;clear hA4 ho5 q4
          by_cases hmn : (cn : Int) + 1 ≤ r
          ·have hcmp : decide ((r : Int) < (cn : Int) + 1) = false := by simp; omega
           go_wp2_with fail
           go_quiet (fail)
           go_wp2
           go_roundw
           case rel => exact ⟨j + 1, by omega, by go_num, hstep.out a HR.out Ha.out (by rw [e1.out, HCD.out]; omega), HO5.out, hb4.trans (ZP _ _ _), HA4.out⟩
           case measure => simp [intOf]; omega
          ·have hcmp : decide ((r : Int) < (cn : Int) + 1) = true := by simp; omega
           go_wp2_with fail
           go_quiet (fail)
           go_wp2
           go_ret
           exact ⟨ZS (hmany.out a Ha.out ha1 (by rw [e1.out, HCD.out]; omega)).symm, hb4.trans (ZP _ _ _)⟩
    ·have hk' : j = st.ak.length + st.ar.length := by omega
     have HJ := Lib.hid hk';clear hk';have hfin : Hid (st.ok = true) := by
      show _ = _;rw [hst.out, HOK.out, Bool.true_and];refine Vu.all (by rw [length_append, ← HJ.out]; exact hgiv) (fun i hi => (HSP.out.each i hi).1)
     have p4 : wr.cell? ⟨w.heap.size, 4, none⟩ = some (.slice a4 st.ak.length c4) := Zm hA 4;have p6 : wr.cell? ⟨w.heap.size, 6, none⟩ = some (.slice a6 st.ar.length c6) := Zm hA 6
     go_wp2
     go_ret
     exact ⟨ZS hfin.out.symm, hb⟩
theorem Zdi (v : Value) (st : Za) (w : World) (hr : Za.Reads w v st) (hf : st.Fit) (hi : -9223372036854775808 ≤ st.av) :
  Calls prog 83 #[v] w fun e w' => e = .returned (.bool st.ok) ∧ Below w.heap.size w w' := by
 cases h : (st.ac.length == 64 && (st.aa.ok && (inB st.av 1 900 && inB st.az 0 (st.av - 1))))
 ·have : st.ok = false := by
   unfold Za.ok;simp only [Bool.and_eq_false_iff] at h ⊢;rcases h with h | h | h | h <;> simp [h]
  rw [this];exact ZdX v st w hr hf hi h
 ·simp only [Bool.and_eq_true, beq_iff_eq] at h
  exact Zdh v st w hr hf h.1 h.2.1 h.2.2.1 h.2.2.2
def Za.free (st : Za) (p : PtrD) : Za :=
 if p.hole then st else if p.al ≤ st.az then { st with ar := st.ar ++ [p] } else if p.al < st.av then { st with ak := st.ak ++ [p] } else { st with ac := Yu st.ac st.aa p.aC.toNat, aa := st.aa.give p.aC.toNat }
theorem Zcv {st : Za} {p : PtrD} (h : p.hole = true) : st.free p = st := by unfold Za.free; rw [if_pos h]
theorem Zcw {st : Za} {p : PtrD} (h : p.hole = false) (h1 : p.al ≤ st.az) : st.free p = { st with ar := st.ar ++ [p] } := by unfold Za.free; rw [h, if_neg (by simp), if_pos h1]
theorem Zcx {st : Za} {p : PtrD} (h : p.hole = false) (h1 : ¬ p.al ≤ st.az) (h2 : p.al < st.av) : st.free p = { st with ak := st.ak ++ [p] } := by unfold Za.free; rw [h, if_neg (by simp), if_neg h1, if_pos h2]
theorem Zav {st : Za} {p : PtrD} (h : p.hole = false) (h1 : ¬ p.al ≤ st.az) (h2 : ¬ p.al < st.av) : st.free p = { st with ac := Yu st.ac st.aa p.aC.toNat, aa := st.aa.give p.aC.toNat } := by unfold Za.free; rw [h, if_neg (by simp), if_neg h1, if_neg h2]
theorem Zkl (p : PtrD) : ∀ u ∈ p.cells, u.oneCell' = true := fun u hu => by
 simp only [PtrD.cells, mem_cons, List.not_mem_nil, or_false] at hu;rcases hu with rfl | rfl | rfl | rfl | rfl <;> rfl
instance instPtrTr : Inhabited PtrD := ⟨PtrD.zero⟩
theorem Zz (xs : List PtrD) : ∀ u ∈ xs.flatMap PtrD.cells, u.oneCell' = true := by
 intro u hu;obtain ⟨x, _, hx⟩ := mem_flatMap.1 hu;exact Zkl x u hx
theorem Xu : UD prog 42 24 5 40 := by
 obtain ⟨i0, hi, hz0, hz1, hz2⟩ := info_parts (P := prog) (e := 24) (z := .agg #[.int .i64 0, .int .i64 0, .int .i64 0, .int .i64 0, .int .i64 0]) (size := 5) (bytes := 40) (by kernel_rfl);exact ⟨Tryz.underlying42, ⟨i0, _, hi, hz0, hz1, hz2, rfl⟩, by decide⟩
theorem Vw (p : PtrD) (s : ByteArray) (w0 : World) (hs : s.size ≤ 9223372036854775806) : Calls prog 134 #[pV p, .string s] w0 fun e w' => e = .returned (.bool (Qk p s)) ∧ Below w0.heap.size w0 w' := by
 have E := Bx.mk (St.start w0);refine ent func134 ntmps134 ?_;refine xsr ?_;refine ybx E ?_;clear E;intro w1 b1 E;refine xr 1 rfl<|xne<|xsq ?_;intro a J;refine Yf (by kernel_rfl) (by kernel_rfl) E.o ?_;revert a;refine Qw 0 5 rfl rfl ?_;refine yq (fun _ E => ZR p _) func24 ?_;refine xqr 1 rfl<|xcs 7 rfl (fun cc1=>?_) fun cc1=>?_;refine Qw 0 5 rfl rfl ?_;refine yqg (fun _ E => ZA p _) func26 ?_;refine xqr 3 rfl<|xcs 12 rfl (fun cc2=>?_) fun cc2=>?_;refine Qf 2 rfl<|Ql 0 rfl rfl<|xqr 1 rfl<|xq rfl (fun E a J=>ZM rfl (J.ev rfl) (by kernel_rfl))<|xqr 3 rfl<|xce 19 rfl (fun cc3 dcc3=>?_) fun cc3 dcc3=>?_;refine Qf 3 rfl<|Ql 0 rfl rfl<|xqr 1 rfl ?_;refine yqg (fun _ E => ZdM s _ (by omega)) func99 ?_;refine xqr 3 rfl ?_;intro a J;refine wpQuiet_nil ?_; intro w2 E; replace E := Bx.mk E;revert a;refine xet<|xre<|xb1 results134 rfl ?_;exact ⟨by simp only [Qk, cc1, cc2, cc3, Bool.true_and, Bool.and_true, Bool.false_and, Bool.and_false, Bool.not_true, Bool.not_false, Bool.not_not], E.o.bel⟩;refine xqr 7 rfl ?_;intro a J;refine wpQuiet_nil ?_; intro w3 E; replace E := Bx.mk E;revert a;refine xet<|xre<|xb1 results134 rfl ?_;exact ⟨by simp only [Qk, cc1, cc2, cc3, Bool.true_and, Bool.and_true, Bool.false_and, Bool.and_false, Bool.not_true, Bool.not_false, Bool.not_not], E.o.bel⟩;refine xqr 14 rfl ?_;intro a J;refine wpQuiet_nil ?_; intro w4 E; replace E := Bx.mk E;revert a;refine xet<|xre<|xb1 results134 rfl ?_;exact ⟨by simp only [Qk, cc1, cc2, Bool.true_and, Bool.and_true, Bool.false_and, Bool.and_false, Bool.not_true, Bool.not_false, Bool.not_not], E.o.bel⟩;refine xqr 19 rfl ?_;intro a J;refine wpQuiet_nil ?_; intro w5 E; replace E := Bx.mk E;revert a;refine xet<|xre<|xb1 results134 rfl ?_;exact ⟨by simp only [Qk, cc1, Bool.true_and, Bool.and_true, Bool.false_and, Bool.and_false, Bool.not_true, Bool.not_false, Bool.not_not], E.o.bel⟩
theorem Znv (l : List PtrD) : szs (l.map Z4) := fun k => by
 by_cases hk : k < (l.map Z4).length
 ·rw [getD_eq_getElem?_getD, getElem?_eq_getElem hk, getD_some, List.getElem_map]; exact Nat.le_trans (ZbK _) (by decide)
 ·rw [getD_eq_getElem?_getD, List.getElem?_eq_none (by omega)]; decide
theorem Zhl (s : ByteArray) (c : UInt8) (k : Nat) : ((Zd s c).getD k ByteArray.empty).size ≤ s.size := by
  have key : ∀ (l : List UInt8) (x : List UInt8), x ∈ splitL c l → x.length ≤ l.length := by
    intro l
    induction l with
    | nil => intro x hx; obtain rfl : x = [] := by simpa [splitL] using hx
             exact Nat.le_refl _
    | cons b t ih =>
      intro x hx
      by_cases hb : b = c
      · subst hb
        rw [Q2] at hx;rcases mem_cons.1 hx with rfl | hx
        · exact Nat.zero_le _
        · exact Nat.le_succ_of_le (ih x hx)
      · obtain ⟨h, r, e⟩ := Zap c t
        rw [Xz t hb e] at hx;rcases mem_cons.1 hx with rfl | hx
        · exact Nat.succ_le_succ (ih h (by rw [e]; exact mem_cons_self ..))
        · exact Nat.le_succ_of_le (ih x (by rw [e]; exact mem_cons_of_mem _ hx))
  by_cases hk : k < (Zd s c).length
  · rw [getD_eq_getElem?_getD, getElem?_eq_getElem hk, getD_some]
    have hm := List.getElem_mem hk;unfold Zd at hm;obtain ⟨x, hx, e⟩ := List.mem_map.1 hm;have e2 : (Zd s c)[k] = ⟨x.toArray⟩ := e.symm;rw [e2, Zh, Zh];exact key _ x hx
  · rw [getD_eq_getElem?_getD, List.getElem?_eq_none (by omega)]; exact Nat.zero_le _
theorem Zc4 (s : ByteArray) (c : UInt8) : (Zd s c).length ≤ s.size + 1 := by
 rw [XX, Zh];exact Nat.succ_le_succ (List.count_le_length ..)
structure UM (s : ByteArray) (ys : List PtrD) : Prop where
  ok : ∀ p ∈ ys, p.ok = true
  is : ys.map Z4 = (Zd s 44).take ys.length
theorem UM.nil (s : ByteArray) : UM s [] := ⟨fun p hp => (nomatch hp), rfl⟩
theorem UM.snoc {s : ByteArray} {ys : List PtrD} (h : UM s ys) (hk : ys.length < (Zd s 44).length) {p : PtrD} (hp : p.ok = true) (ht : Z4 p = (Zd s 44).getD ys.length ByteArray.empty) : UM s (ys ++ [p]) := by
 refine ⟨fun q hq => ?_, ?_⟩
 ·rcases mem_append.1 hq with hq | hq
  ·exact h.ok q hq
  ·rw [mem_singleton.1 hq]; exact hp
 ·rw [length_append, length_singleton, List.take_succ_eq_append_getElem hk, List.map_append, h.is, map_cons, List.map_nil, ht, getD_eq_getElem?_getD, getElem?_eq_getElem hk, getD_some]
theorem UM.one {s : ByteArray} {ys l : List PtrD} (h : UM s ys) (hn : ys.length = (Zd s 44).length) (hl : IsFan s l) : l = ys := by
 refine Zjy hl.ok h.ok ?_;rw [← hl.pieces, h.is, hn, List.take_length]
theorem Znw {s : ByteArray} {k : Nat} (hk : k < (Zd s 44).length) (h : ∀ p : PtrD, p.ok = true → Z4 p = (Zd s 44).getD k ByteArray.empty → False) : ∀ l, ¬ IsFan s l := fun l hl => by
 have e := hl.pieces;have hk2 : k < l.length := by rw [e, length_map] at hk; exact hk
 refine h l[k] (hl.ok _ (List.getElem_mem hk2)) ?_;rw [e, getD_eq_getElem?_getD, getElem?_eq_getElem (by rw [length_map]; exact hk2), getD_some, List.getElem_map]
theorem Zl7 {s : ByteArray} (h : (Zd s 44).length ≠ 4) : ∀ l, ¬ IsFan s l := fun l hl => by
 have e := hl.pieces;rw [e, length_map] at h;exact h hl.n
theorem UM.is_of {s : ByteArray} {ys : List PtrD} (h : UM s ys) (hn : ys.length = (Zd s 44).length) (h4 : ys.length = 4) (hs : ys.all (fun p => p.hole) = false) : IsFan s ys := by
 refine ⟨h4, h.ok, hs, ?_⟩;show QO (ys.map Z4) ZlZ = s;rw [h.is, hn, List.take_length];exact Jx s 44
structure ZaK (s : ByteArray) (ns : List Nat) : Prop where
  is : ∀ k, k < ns.length → Qs ((Zd s 46).getD k ByteArray.empty) = some (ns.getD k 0)
theorem ZaK.nil (s : ByteArray) : ZaK s [] := ⟨fun k hk => absurd hk (Nat.not_lt_zero _)⟩
theorem ZaK.snoc {s : ByteArray} {ns : List Nat} (h : ZaK s ns) {n : Nat} (hn : Qs ((Zd s 46).getD ns.length ByteArray.empty) = some n) : ZaK s (ns ++ [n]) := ⟨fun k hk => by
 rw [length_append, length_singleton] at hk;rcases (by omega : k < ns.length ∨ k = ns.length) with h1 | rfl
 ·rw [h.is k h1, getD_eq_getElem?_getD, getD_eq_getElem?_getD, List.getElem?_append_left h1]
 ·rw [hn]; simp⟩
theorem Zl8 (ns : List Nat) (n : Nat) : ns.map (fun n : Nat => (n : Int)) ++ [(n : Int)] = (ns ++ [n]).map (fun n : Nat => (n : Int)) := by rw [List.map_append]; rfl
theorem Zpk {l : List Nat} (h : l.length = 5) : ∃ a b c d e, l = [a, b, c, d, e] := by
 match l, h with
 | [a, b, c, d, e], _ => exact ⟨a, b, c, d, e, rfl⟩
theorem Zhm {s : ByteArray} (hd : (s.toList == (⟨#[45]⟩ : ByteArray).toList) = false) {p : PtrD} (hp : p.ok = true) (ht : Z4 p = s) : (Zd s 46).length = 5 ∧ ∀ k, k < 5 → ∃ n : Nat, Qs ((Zd s 46).getD k ByteArray.empty) = some n := by
 have hh := QR hp ht hd;have hb := PtrD.ok_all hp hh;have e := YA hp hh;rw [ht] at e;rw [e];refine ⟨rfl, fun k hk => ?_⟩;rcases (by omega : k = 0 ∨ k = 1 ∨ k = 2 ∨ k = 3 ∨ k = 4) with rfl | rfl | rfl | rfl | rfl
 ·exact ⟨_, Z6 (n := p.aC) (by omega)⟩
 ·exact ⟨_, Z6 (n := p.al) (by omega)⟩
 ·exact ⟨_, Z6 (n := p.am) (by omega)⟩
 ·exact ⟨_, Z6 (n := p.aB) (by omega)⟩
 ·exact ⟨_, Z6 (n := p.aq) (by omega)⟩
theorem Znx {s : ByteArray} {a b c d e : Nat} (h : ZaK s [a, b, c, d, e]) (h5 : (Zd s 46).length = 5) : Zd s 46 = [Zy a, Zy b, Zy c, Zy d, Zy e] ∧ a ≤ 999999999 ∧ b ≤ 999999999 ∧ c ≤ 999999999 ∧ d ≤ 999999999 ∧ e ≤ 999999999 := by
 have hz : [a, b, c, d, e].length = 5 := rfl;have h0 := XM (h.is 0 (by omega));have h1 := XM (h.is 1 (by omega));have h2 := XM (h.is 2 (by omega));have h3 := XM (h.is 3 (by omega));have h4 := XM (h.is 4 (by omega));obtain ⟨x0, x1, x2, x3, x4, e⟩ := Zpj h5;rw [e] at h0 h1 h2 h3 h4 ⊢;have k0 : x0 = Zy a := h0.2;have k1 : x1 = Zy b := h1.2;have k2 : x2 = Zy c := h2.2;have k3 : x3 = Zy d := h3.2;have k4 : x4 = Zy _ := h4.2;exact ⟨by rw [k0, k1, k2, k3, k4]; rfl, h0.1, h1.1, h2.1, h3.1, h4.1⟩
theorem Zny {s : ByteArray} {a b c d e : Nat} (h : ZaK s [a, b, c, d, e]) (h5 : (Zd s 46).length = 5) (hp : (⟨(a : Int), (b : Int), (c : Int), (d : Int), (e : Int)⟩ : PtrD).ok = true) (hh : (⟨(a : Int), (b : Int), (c : Int), (d : Int), (e : Int)⟩ : PtrD).hole = false) : Z4 ⟨(a : Int), (b : Int), (c : Int), (d : Int), (e : Int)⟩ = s := by
 obtain ⟨e1, b0, b1, b2, b3, b4⟩ := Znx h h5;have e2 := YA hp hh;have num : ∀ {n : Nat}, n ≤ 999999999 → ZI (n : Int) = Zy n := fun hn => by rw [YR (by omega) (by omega)]; rfl
 rw [num b0, num b1, num b2, num b3, num b4, ← e1] at e2;have j1 := Jx (Z4 ⟨(a : Int), (b : Int), (c : Int), (d : Int), (e : Int)⟩) 46;rw [e2, Jx] at j1;exact j1.symm
theorem ZjA {s : ByteArray} {a b c d e : Nat} (h : ZaK s [a, b, c, d, e]) (h5 : (Zd s 46).length = 5) (hd : (s.toList == (⟨#[45]⟩ : ByteArray).toList) = false) {p : PtrD} (hp : p.ok = true) (ht : Z4 p = s) : p = ⟨(a : Int), (b : Int), (c : Int), (d : Int), (e : Int)⟩ ∧ p.hole = false := by
 have hh := QR hp ht hd;have hb := PtrD.ok_all hp hh;have e1 := YA hp hh;rw [ht] at e1;have g : ∀ {k : Nat} {n m : Nat} {x : Int}, Qs ((Zd s 46).getD k ByteArray.empty) = some n → (Zd s 46).getD k ByteArray.empty = ZI x → 0 ≤ x ∧ x ≤ 999999999 → x = (n : Int) := fun h1 h2 h3 => by rw [h2] at h1; exact (UK h3 h1).symm
 have hz : [a, b, c, d, e].length = 5 := rfl;have i0 := g (m := 0) (h.is 0 (by omega)) (by rw [e1]; rfl) (x := p.aC) (by omega);have i1 := g (m := 0) (h.is 1 (by omega)) (by rw [e1]; rfl) (x := p.al) (by omega);have i2 := g (m := 0) (h.is 2 (by omega)) (by rw [e1]; rfl) (x := p.am) (by omega);have i3 := g (m := 0) (h.is 3 (by omega)) (by rw [e1]; rfl) (x := p.aB) (by omega);have i4 := g (m := 0) (h.is 4 (by omega)) (by rw [e1]; rfl) (x := p.aq) (by omega);refine ⟨?_, hh⟩
 cases p
 simp only at i0 i1 i2 i3 i4;rw [i0, i1, i2, i3, i4]; rfl
theorem VZ (s : ByteArray) (w0 : World) (hs : s.size ≤ 1000000) : Calls prog 40 #[.string s] w0 fun e w' => (∃ p : PtrD, p.ok = true ∧ Z4 p = s ∧ e = .returned (.tuple #[pV p, .bool true]) ∧ Below w0.heap.size w0 w') ∨ ((∀ p : PtrD, p.ok = true → Z4 p = s → False) ∧ e = .returned (.tuple #[az5, .bool false]) ∧ Below w0.heap.size w0 w') := by
 have hpm := Zc4 s 46;have E := Bx.mk (St.start w0);refine ent func40 ntmps40 ?_;refine xsr ?_;refine yal z5 E ?_;clear E;intro w1 b1 E;refine xr 1 rfl<|xne<|xsq<|xsr<|xr 1 rfl<|xy rfl (fun a J=>Y7 rfl (J.ev rfl) (J.ev rfl))<|xne<|xcs 11 rfl (fun cc1=>?_) fun cc1=>?_;refine xct rfl<|xsr<|xy rfl (vb z5 rfl) ?_;refine yst E 0 ?_;clear E;intro w2 E;replace E:=E.nm;refine xr 1 rfl<|xne<|xre<|xtr ?_;intro a J;refine Zw J results40 (J.resBox rfl (E.o.box 0 rfl) (by kernel_rfl)) (J.res rfl) ?_;exact .inl ⟨PtrD.zero, rfl, (ZN cc1).symm, rfl, E.o.bel⟩;refine xcf rfl<|xsk<|xet<|xsr<|xr 1 rfl ?_;refine yc (JD s 46 _ (by omega)) func62 ?_;rintro _ w3 ⟨ao2, cp2, rfl, hs⟩;refine ⟨_, rfl, ?_⟩;replace E := E.ad hs;clear hs;refine xr 1 rfl<|xne<|xsq<|xsr<|xr 1 rfl<|xy rfl (vn 9 1 rfl)<|xr 1 rfl<|xne<|xcn 17 rfl (fun _ dcc2=>?_) fun _ dcc2=>?_;refine xct rfl<|xsr<|xy rfl (vb z5 rfl) ?_;refine yst E 1 ?_;clear E;intro w4 E;replace E:=E.nm;refine xr 1 rfl<|xne<|xre<|xtr ?_;intro a J;refine Zw J results40 (J.resBox rfl (E.o.box 1 rfl) (by kernel_rfl)) (J.res rfl) ?_;refine .inr ⟨fun p hp ht => ?_, rfl, E.o.bel⟩;have h5 := Zhm cc1 hp ht;have := h5.1; omega;refine xcf rfl<|xsk<|xet<|xsr ?_;refine yem 3 1 E ?_;clear E;intro w5 b3 E;refine xr 1 rfl<|xne<|xsq<|xsr<|xr 1 rfl<|xne<|xbl ?_;replace E := Bx.mk (E.o.nilRow ZG 1 3 (some ⟨b3, 0, none⟩));intro a J;refine Zt (ι := Nat) (fun k a w => ∃ (ao : Option Addr) (cp : Nat) (xs : List Int) (ns : List Nat), (k ≤ 5 ∧ xs = ns.map (fun n : Nat => (n : Int)) ∧ ns.length = k ∧ ZaK s ns) ∧ Fr 64 a [(0, .string s), (2, .pointer (some ⟨b1, 0, none⟩)), (3, .bool false), (4, .slice ao2 ((Zd s 46).length) cp2), (5, .slice ao xs.length cp), (6, .int .i64 (k : Int))] ∧ St w0 ([Zg ZG 1 3 (.slice ao xs.length cp) xs, Zg Zu 1 9 (.slice ao2 ((Zd s 46).length) cp2) (Zd s 46), boxA b1 5 24 (az5)]) w) (fun k => 5 - k) 0 ⟨_, _, [], [], ⟨Nat.zero_le _, rfl, rfl, ZaK.nil s⟩, J.ls _, E.o⟩ ?_;clear J E; clear a;rintro k a w6 ⟨ao, cp, xs, ns, ⟨hk, hxs, hnl, hnt⟩, J, E⟩;replace E := Bx.mk E;have hxl : xs.length = k := by rw [hxs, length_map]; exact hnl
 revert a;refine xsq<|xsr<|xr 2 rfl<|xne<|xcd 21 rfl (fun _ dcc3=>?_) fun _ dcc3=>?_
 refine xct rfl<|xsk<|xet<|xsq<|xbl<|xsq ?_;obtain ⟨g4, rfl, _, _, _, _⟩ := E.o.rowOpen 1 rfl (by omega);have hcap := E.o.capLe 1 rfl;refine xrl<|xr 2 rfl<|xy rfl (vx 9 k 1 rfl)<|xy rfl (fun a J=>ylo (v := .string ((Zd s 46).getD k ByteArray.empty)) rfl (J.ev rfl) (E.o.elem1 Zf 1 rfl (Zi (xs := Zd s 46) (j := k) (d := ByteArray.empty) (by omega)) rfl)) ?_;refine yc (VP ((Zd s 46).getD k ByteArray.empty) _ (by have := Zhl s 46 k; omega)) func39 ?_;rintro _ w7 (⟨n1, hg1, rfl, hb⟩ | ⟨hg1, rfl, hb⟩);refine ⟨_, rfl, ?_⟩; replace E := Bx.mk (E.o.later hb);clear hb;refine xr 5 rfl<|xne<|xsq<|xsr<|xr 2 rfl<|xne<|xcf rfl<|xsk<|xet<|xrl<|xr 2 rfl ?_;refine ybs ZG 3 1 [(n1 : Int)] E ?_;clear E;intro b5 w8 E;refine yap ZdO Zp E 1 (St.rdN E.o Zp 0 rfl) (VF _) ?_;clear E;intro ao6 cp7 w9 E;refine xr 1 rfl<|xni<|xeb<|xet<|xrl<|xr 1 rfl<|xy rfl (vad rfl)<|xr 1 rfl<|xne ?_;have hz : xs.length + ([(n1 : Int)] : List Int).length = (xs ++ [(n1 : Int)]).length := (length_append ..).symm;intro a J;rw [hz] at E J;have hnx : xs ++ [(n1 : Int)] = (ns ++ [n1]).map (fun n : Nat => (n : Int)) := by rw [hxs]; exact Zl8 ns n1
 replace E:=E.pks [3,3,3];exact ⟨k + 1, ⟨_, _, xs ++ [(n1 : Int)], ns ++ [n1], ⟨by omega, hnx, by rw [length_append, hnl]; rfl, hnt.snoc (by rw [hnl]; exact hg1)⟩, J.less _ ⟨rfl, rfl, rfl, rfl, rfl, rfl, trivial⟩, (E.o.erase 3)⟩, (by omega)⟩;refine ⟨_, rfl, ?_⟩; replace E := Bx.mk (E.o.later hb);clear hb;refine xr 5 rfl<|xne<|xsq<|xsr<|xr 2 rfl<|xne<|xct rfl<|xsr<|xy rfl (vb z5 rfl) ?_;refine yst E 2 ?_;clear E;intro w10 E;replace E:=E.nm;refine xr 1 rfl<|xne<|xre<|xtr<|xbr<|xtr<|xtr<|xbr<|xtr ?_;intro a J;refine Zw J results40 (J.resBox rfl (E.o.box 2 rfl) (by kernel_rfl)) (J.res rfl) ?_;refine .inr ⟨fun p hp ht => ?_, rfl, E.o.bel⟩;have h5 := Zhm cc1 hp ht;obtain ⟨n, hn⟩ := h5.2 k (by omega); rw [hg1] at hn; cases hn;refine xcf rfl<|xex<|xtx<|xtx<|xbh<|xet<|xsq ?_;have hk5 : ns.length = 5 := by omega
 obtain ⟨m0, m1, m2, m3, m4, rfl⟩ := Zpk hk5;obtain rfl : xs = [(m0 : Int), (m1 : Int), (m2 : Int), (m3 : Int), (m4 : Int)] := hxs;intro a J;replace J : Fr 64 a [(0, .string s), (2, .pointer (some ⟨b1, 0, none⟩)), (3, .bool false), (4, .slice ao2 ((Zd s 46).length) cp2), (5, .slice ao 5 cp), (21, .bool false)] := J.ls _;obtain ⟨g8, rfl, _, _, _, _⟩ := E.o.rowOpen 0 rfl (Nat.succ_pos _);have hcap := E.o.capLe 0 rfl;revert a;refine hld [] E ?_;clear E;intro w11 E M;refine Hp 0 E rfl<|xhy 1 E.o rfl rfl (fun E=>vx 3 0 1 rfl)<|xhy 2 E.o rfl rfl (fun E=>ve Zp E 0 0 rfl rfl rfl rfl)<|Hp 3 E rfl<|xhy 4 E.o rfl rfl (fun E=>vx 3 1 1 rfl)<|xhy 5 E.o rfl rfl (fun E=>ve Zp E 0 1 rfl rfl rfl rfl)<|Hp 6 E rfl<|xhy 7 E.o rfl rfl (fun E=>vx 3 2 1 rfl)<|xhy 8 E.o rfl rfl (fun E=>ve Zp E 0 2 rfl rfl rfl rfl)<|Hp 9 E rfl<|xhy 10 E.o rfl rfl (fun E=>vx 3 3 1 rfl)<|xhy 11 E.o rfl rfl (fun E=>ve Zp E 0 3 rfl rfl rfl rfl)<|Hp 12 E rfl<|xhy 13 E.o rfl rfl (fun E=>vx 3 4 1 rfl)<|xhy 14 E.o rfl rfl (fun E=>ve Zp E 0 4 rfl rfl rfl rfl)<|xhy 15 E.o rfl rfl (fun E=>vb [.int .i64 (m0 : Int), .int .i64 (m1 : Int), .int .i64 (m2 : Int), .int .i64 (m3 : Int), .int .i64 (m4 : Int)] rfl) ?_;refine Zk 16 ?_;refine yoa z5 E M ?_;clear E M;intro w12 b9 E M;refine Zk 17 ?_;refine yos 0 [0] M ?_;clear E M;intro w13 E M;refine hdn ?_;replace E := M; clear M;refine xet<|xsq<|xsr<|Xw 0 5 E rfl rfl ?_;refine ycB (ZR (⟨(m0 : Int), (m1 : Int), (m2 : Int), (m3 : Int), (m4 : Int)⟩ : PtrD) _) func24 E ?_;clear E;intro w14 E;refine xr 2 rfl<|xcs 58 rfl (fun cc4=>?_) fun cc4=>?_;refine xr 3 rfl<|xne<|xct rfl<|xsr<|xy rfl (vb z5 rfl) ?_;refine yst E 3 ?_;clear E;intro w15 E;replace E:=E.nm;refine xr 1 rfl<|xne<|xre<|xtr ?_;intro a J;refine Zw J results40 (J.resBox rfl (E.o.box 3 rfl) (by kernel_rfl)) (J.res rfl) ?_;refine .inr ⟨fun p hp ht => ?_, rfl, E.o.bel⟩;obtain ⟨e1, e2⟩ := ZjA hnt (by omega) cc1 hp ht; rw [e1] at hp e2;simp [hp, e2] at cc4;refine Xw 0 5 E rfl rfl ?_;refine VJ (ZA (⟨(m0 : Int), (m1 : Int), (m2 : Int), (m3 : Int), (m4 : Int)⟩ : PtrD) _) func26 E ?_;clear E;intro w16 E;refine xr 1 rfl<|xne<|xcs 61 rfl (fun cc5=>?_) fun cc5=>?_;refine xct rfl<|xsr<|xy rfl (vb z5 rfl) ?_;refine yst E 3 ?_;clear E;intro w17 E;replace E:=E.nm;refine xr 1 rfl<|xne<|xre<|xtr ?_;intro a J;refine Zw J results40 (J.resBox rfl (E.o.box 3 rfl) (by kernel_rfl)) (J.res rfl) ?_;refine .inr ⟨fun p hp ht => ?_, rfl, E.o.bel⟩;obtain ⟨e1, e2⟩ := ZjA hnt (by omega) cc1 hp ht; rw [e1] at hp e2;simp [hp, e2] at cc5;refine xcf rfl<|xsk<|xet<|xsr<|Xw 0 5 E rfl rfl ?_;refine yst E 3 ?_;clear E;intro w18 E;replace E:=E.nm;refine xr 1 rfl<|xne<|xre ?_;intro a J;refine Zw J results40 (J.resBox rfl (E.o.box 3 rfl) (by kernel_rfl)) (J.res rfl) ?_;exact .inl ⟨(⟨(m0 : Int), (m1 : Int), (m2 : Int), (m3 : Int), (m4 : Int)⟩ : PtrD), by simpa using cc4, Zny hnt (by omega) (by simpa using cc4) (by simpa using cc5), rfl, E.o.bel⟩
theorem ZdY (s : ByteArray) (w0 : World) (hs : s.size ≤ 1000000) : Calls prog 191 #[.string s] w0 fun e w' => (∃ l, IsFan s l ∧ ∃ ao cp, e = .returned (.tuple #[.slice ao l.length cp, .bool true]) ∧ St w0 [Zg PtrD.cells 5 24 (.slice ao l.length cp) l] w') ∨ ((∀ l, ¬ IsFan s l) ∧ ∃ ao, e = .returned (.tuple #[.slice ao 0 0, .bool false]) ∧ Below w0.heap.size w0 w') := by
 have hpm := Zc4 s 44;have E := Bx.mk (St.start w0);refine ent func191 ntmps191 ?_;refine xsr<|xr 2 rfl<|xne<|xsr<|xr 1 rfl ?_;refine yc (JD s 44 _ (by omega)) func62 ?_;rintro _ w1 ⟨ao1, cp1, rfl, hs⟩;refine ⟨_, rfl, ?_⟩;replace E := E.ad hs;clear hs;refine xr 1 rfl<|xne<|xsr ?_;refine yem 24 5 E ?_;clear E;intro w2 b2 E;refine xr 1 rfl<|xne<|xsr<|xr 1 rfl<|xne<|xsq<|xsr<|xr 1 rfl<|xne<|xbl ?_;replace E := Bx.mk (E.o.nilRow PtrD.cells 5 24 (some ⟨b2, 0, none⟩));intro a J;refine Zt (ι := Nat) (fun k a w => ∃ (ao : Option Addr) (cp : Nat) (ys : List PtrD), (k ≤ (Zd s 44).length ∧ ys.length = k ∧ UM s ys) ∧ Fr 49 a [(0, .string s), (4, .slice ao1 ((Zd s 44).length) cp1), (5, .slice ao ys.length cp), (7, .int .i64 (k : Int)), (6, .bool (!ys.all (fun p => p.hole)))] ∧ St w0 ([Zg PtrD.cells 5 24 (.slice ao ys.length cp) ys, Zg Zu 1 9 (.slice ao1 ((Zd s 44).length) cp1) (Zd s 44)]) w) (fun k => (Zd s 44).length - k) 0 ⟨_, _, [], ⟨Nat.zero_le _, rfl, UM.nil s⟩, J.ls _, E.o⟩ ?_;clear J E; clear a;rintro k a w3 ⟨ao, cp, ys, ⟨hk, hyl, hft⟩, J, E⟩;replace E := Bx.mk E;revert a;refine xsq<|xsr<|xr 2 rfl<|xy rfl (vn 9 1 rfl)<|xr 1 rfl<|xne<|xcd 16 rfl (fun cc1 dcc1=>?_) fun cc1 dcc1=>?_
 refine xct rfl<|xsk<|xet<|xsq<|xbl<|xsq ?_;obtain ⟨g3, rfl, _, _, _, _⟩ := E.o.rowOpen 1 rfl (by omega);have hcap := E.o.capLe 1 rfl;refine xrl<|xr 2 rfl<|xy rfl (vx 9 k 1 rfl)<|xy rfl (fun a J=>ylo (v := .string ((Zd s 44).getD k ByteArray.empty)) rfl (J.ev rfl) (E.o.elem1 Zf 1 rfl (Zi (xs := Zd s 44) (j := k) (d := ByteArray.empty) (by omega)) rfl)) ?_;refine yc (VZ ((Zd s 44).getD k ByteArray.empty) _ (by have := Zhl s 44 k; omega)) func40 ?_;rintro _ w4 (⟨p, hpo, hpt, rfl, hb⟩ | ⟨hpn, rfl, hb⟩);refine ⟨_, rfl, ?_⟩; replace E := Bx.mk (E.o.later hb);clear hb;refine xr 3 rfl ?_;refine yal z5 E ?_;clear E;intro w5 b4 E;refine yst E 0 ?_;clear E;intro w6 E;replace E:=E.nm;refine xr 1 rfl<|xne<|xsq<|xsr<|xr 2 rfl<|xne<|xcf rfl<|xsk<|xet<|xsr<|xr 2 rfl<|xcs 31 rfl (fun cc2=>?_) fun cc2=>?_;refine xr 5 rfl<|xne<|xrl<|xr 1 rfl<|Xw 0 5 E rfl rfl ?_;refine ybs PtrD.cells 24 5 [p] E ?_;clear E;intro b5 w7 E;refine yap Xu PtrD.cells_len E 2 (St.rdN E.o PtrD.cells_len 0 rfl) (Zz _) ?_;clear E;intro ao6 cp7 w8 E;refine xr 1 rfl<|xni<|xeb<|xet<|xrl<|xr 1 rfl<|xy rfl (vad rfl)<|xr 1 rfl<|xne ?_;have hz : ys.length + ([p]).length = (ys ++ ([p])).length := (length_append ..).symm;intro a J;rw [hz] at E J;have hlen : (ys ++ ([p])).length = k + 1 := by rw [length_append, hyl]; rfl
 have hft2 : UM s (ys ++ ([p])) := hft.snoc (by omega) hpo (by rw [hyl]; exact hpt);have hsm : (true : Bool) = (!(ys ++ [p]).all (fun p => p.hole)) := by rw [List.all_append]; skip; simp [cc1, cc2]
 replace E:=E.pks [3,3];exact ⟨k + 1, ⟨_, _, ys ++ ([p]), ⟨by omega, hlen, hft2⟩, J.less _ ⟨rfl, rfl, rfl, rfl, (congrArg (fun z => some (Value.bool z)) hsm), trivial⟩, (E.o.erS [3,2])⟩, (by omega)⟩;refine Xw 0 5 E rfl rfl ?_;refine VJ (ZA p _) func26 E ?_;clear E;intro w9 E;refine xr 3 rfl<|xne<|xrl<|xr 1 rfl<|Xw 0 5 E rfl rfl ?_;refine ybs PtrD.cells 24 5 [p] E ?_;clear E;intro b8 w10 E;refine yap Xu PtrD.cells_len E 2 (St.rdN E.o PtrD.cells_len 0 rfl) (Zz _) ?_;clear E;intro ao9 cp10 w11 E;refine xr 1 rfl<|xni<|xeb<|xet<|xrl<|xr 1 rfl<|xy rfl (vad rfl)<|xr 1 rfl<|xne ?_;have hz : ys.length + ([p]).length = (ys ++ ([p])).length := (length_append ..).symm;intro a J;rw [hz] at E J;have hlen : (ys ++ ([p])).length = k + 1 := by rw [length_append, hyl]; rfl
 have hft2 : UM s (ys ++ ([p])) := hft.snoc (by omega) hpo (by rw [hyl]; exact hpt);have hsm : (!p.hole : Bool) = (!(ys ++ [p]).all (fun p => p.hole)) := by rw [List.all_append]; skip; simp [cc1, cc2]
 replace E:=E.pks [3,3];exact ⟨k + 1, ⟨_, _, ys ++ ([p]), ⟨by omega, hlen, hft2⟩, J.less _ ⟨rfl, rfl, rfl, rfl, (congrArg (fun z => some (Value.bool z)) hsm), trivial⟩, (E.o.erS [3,2])⟩, (by omega)⟩;refine ⟨_, rfl, ?_⟩; replace E := Bx.mk (E.o.later hb);clear hb;refine xr 3 rfl ?_;refine yal z5 E ?_;clear E;intro w12 b11 E;refine yst E 0 ?_;clear E;intro w13 E;replace E:=E.nm;refine xr 1 rfl<|xne<|xsq<|xsr<|xr 2 rfl<|xne<|xct rfl<|xsr ?_;refine yem 24 5 E ?_;clear E;intro w14 b12 E;refine xr 2 rfl<|xne<|xre<|xtr<|xbr<|xtr<|xtr<|xbr<|xtr<|xb2 results191 rfl rfl ?_;exact .inr ⟨Znw (k := k) (by omega) hpn, _, rfl, E.o.bel⟩;refine xcf rfl<|xex<|xtx<|xtx<|xbh<|xet<|xsq<|xsr<|xr 1 rfl<|xy rfl (vn 24 5 rfl)<|xr 2 rfl<|xcn 43 rfl (fun _ dcc3=>?_) fun _ dcc3=>?_;refine xr 3 rfl<|xne<|xct rfl<|xsr ?_;refine yem 24 5 E ?_;clear E;intro w15 b13 E;refine xr 2 rfl<|xne<|xre<|xtr<|xb2 results191 rfl rfl ?_;exact .inr ⟨Zl7 (by omega), _, rfl, E.o.bel⟩;refine xr 3 rfl<|xne<|xcs 46 rfl (fun cc4=>?_) fun cc4=>?_;refine xct rfl<|xsr ?_;refine yem 24 5 E ?_;clear E;intro w16 b14 E;refine xr 2 rfl<|xne<|xre<|xtr<|xb2 results191 rfl rfl ?_;exact .inr ⟨fun l hl => (by have e := hft.one (by omega) hl; subst e; have h2 := hl.some; simp [h2] at cc4), _, rfl, E.o.bel⟩;refine xcf rfl<|xsk<|xet<|xsr<|xr 3 rfl<|xne<|xre<|xb2 results191 rfl rfl ?_;have hfan : IsFan s ys := hft.is_of (by omega) (by omega) (by simpa using cc4);exact .inl ⟨ys, hfan, _, _, rfl, (E.o.erase 1)⟩
structure Xv (st : Za) : Prop where
  n : st.ac.length = 64
  z : ∀ i, (st.ac.getD i ByteArray.empty).size ≤ 1000000
theorem V0 {st : Za} (h : Xv st) (p : PtrD) : (Zn st p).size ≤ 1000000 := by
 unfold Zn
 cases p.hole
 ·cases Qk p (Yt st p)
  ·exact Nat.zero_le _
  ·exact h.z _
 ·exact Nat.zero_le _
theorem J3 (a0 : Option Addr) (c0 : Nat) (a1 : Option Addr) (c1 : Nat) (a2 : Option Addr) (c2 : Nat) (a4 : Option Addr) (c4 : Nat) (a6 : Option Addr) (c6 : Nat) (st : Za) (p : PtrD) (w0 : World) (hR : Rd Zu 1 w0 a0 st.ac.length st.ac) (hrow : Xv st) (hp : p.ok = true) : Calls prog 96 #[sV a0 c0 a1 c1 a2 c2 a4 c4 a6 c6 st, pV p] w0 fun e w' => e = .returned (.tuple #[.string (Zn st p), .bool (XQ st p)]) ∧ Below w0.heap.size w0 w' := by
 have HR := Bx.mk hR; clear hR;have E := Bx.mk (St.start w0);refine QM func96 rfl ntmps96 [(0, sV a0 c0 a1 c1 a2 c2 a4 c4 a6 c6 st), (1, pV p)] ⟨rfl, rfl, trivial⟩ rfl ?_; intro a J;have hrn := hrow.n; obtain ⟨g0, o0, r0⟩ := HR.out.opn; have R0 := Bx.mk r0; clear r0;revert a;refine xsr ?_;refine ybx E ?_;clear E;intro w1 b1 E;refine ybx E ?_;clear E;intro w2 b2 E;refine xr 2 rfl<|xne<|xsq<|xsr<|Xw 0 5 E rfl rfl ?_;refine ycB (ZA p _) func26 E ?_;clear E;intro w3 E;refine xne<|xcs 7 rfl (fun cc1=>?_) fun cc1=>?_;refine xct rfl<|xsr<|xr 2 rfl<|xne<|xre<|xtr<|xb2 results96 rfl rfl ?_;exact ⟨by rw [Xd cc1, Za1 cc1] <;> rfl, E.o.bel⟩;have hpb := PtrD.ok_all hp cc1;refine xcf rfl<|xsk<|xet<|xsq<|xsq ?_;intro a J;refine Yf (by kernel_rfl) (by kernel_rfl) E.o ?_;revert a;refine Qw 0 5 rfl rfl<|Qf 0 rfl<|Ql 1 rfl rfl<|Qf 0 rfl<|Ql 0 rfl rfl<|xq rfl (fun E a J=>Jd (e := 9) (i := p.aC.toNat) (size := 1) rfl (J.ev rfl) (J.ev rfl) (by kernel_rfl) (by omega) (by omega) (R0.out.ao p.aC.toNat (by omega)))<|xq rfl (fun E a J=>ylo (v := .string (st.ac.getD p.aC.toNat ByteArray.empty)) rfl (J.ev rfl) (R0.out.elem1 E (Zi (xs := st.ac) (j := p.aC.toNat) (d := ByteArray.empty) (by omega)) rfl)) ?_;refine yq (v := .bool (Qk p (Yt st p))) (fun _ E => Vw p (st.ac.getD p.aC.toNat ByteArray.empty) _ (by have := hrow.z p.aC.toNat; omega)) func134 ?_;refine xqr 1 rfl ?_;intro a J;refine wpQuiet_nil ?_; intro w4 E; replace E := Bx.mk E;revert a;refine xet<|xcs 16 rfl (fun cc2=>?_) fun cc2=>?_
 refine xct rfl<|xsr<|xr 2 rfl<|xne<|xre<|xtr<|xb2 results96 rfl rfl ?_;have hf := cc2; simp only [Bool.not_eq_true', Bool.not_eq_false'] at hf;exact ⟨by rw [Zhg cc1 hf, QS cc1, hf] <;> rfl, E.o.bel⟩;refine xcf rfl<|xsk<|xet<|xsr<|Xf 0 rfl<|Xl 1 E rfl rfl<|Xf 0 rfl<|Xl 0 E rfl rfl<|xy rfl (fun a J=>Jd (e := 9) (i := p.aC.toNat) (size := 1) rfl (J.ev rfl) (J.ev rfl) (by kernel_rfl) (by omega) (by omega) (R0.out.ao p.aC.toNat (by omega)))<|xy rfl (fun a J=>ylo (v := .string (st.ac.getD p.aC.toNat ByteArray.empty)) rfl (J.ev rfl) (R0.out.elem1 E.o (Zi (xs := st.ac) (j := p.aC.toNat) (d := ByteArray.empty) (by omega)) rfl))<|xr 2 rfl<|xne<|xre<|xb2 results96 rfl rfl ?_;have hf := cc2; simp only [Bool.not_eq_true', Bool.not_eq_false'] at hf;exact ⟨by rw [JE cc1 hf, QS cc1, hf] <;> rfl, E.o.bel⟩
theorem Uo (n : Nat) (hn : n ≤ 100) (w0 : World) : Calls prog 133 #[.int .i64 (n : Int)] w0 fun e w' => ∃ ao cp, e = .returned (.slice ao n cp) ∧ St w0 [Zg PtrD.cells 5 24 (.slice ao n cp) (replicate n PtrD.zero)] w' := by
 have E := Bx.mk (St.start w0);refine ent func133 ntmps133 ?_;refine xsr<|xr 1 rfl<|xne<|xsr<|xr 1 rfl ?_;intro a J;refine ZlN (enc := PtrD.cells) (n := n) rfl J rfl rfl rfl Xu (J.ev rfl) (J.ev rfl) (by omega) (by omega) (by omega) (by unfold maxLen; omega) PtrD.zero (u := az5) (by kernel_rfl) rfl rfl E.o ?_; clear J E a; intro b1 a w1 J E; replace E := Bx.mk E;revert a;refine xr 1 rfl<|xne<|xre<|xb1 results133 rfl ?_;exact ⟨_, _, rfl, E.o⟩
theorem Up (a0 : Option Addr) (c0 : Nat) (a1 : Option Addr) (c1 : Nat) (a2 : Option Addr) (c2 : Nat) (a4 : Option Addr) (c4 : Nat) (a6 : Option Addr) (c6 : Nat) (st : Za) (p : PtrD) (level : Int) (w0 : World) (hR : Rd Zu 1 w0 a0 st.ac.length st.ac) (hrow : Xv st) : Calls prog 165 #[sV a0 c0 a1 c1 a2 c2 a4 c4 a6 c6 st, pV p, .int .i64 level] w0 fun e w' => (∃ l, kidsS st p level = some l ∧ ∃ ao cp, e = .returned (.tuple #[.slice ao l.length cp, .bool true]) ∧ St w0 [Zg PtrD.cells 5 24 (.slice ao l.length cp) l] w') ∨ (kidsS st p level = none ∧ ∃ ao n cp, e = .returned (.tuple #[.slice ao n cp, .bool false]) ∧ Below w0.heap.size w0 w') := by
 have HR := Bx.mk hR; clear hR;have E := Bx.mk (St.start w0);refine ent func165 ntmps165 ?_;refine xsr ?_;refine ybx E ?_;clear E;intro w1 b1 E;refine ybx E ?_;clear E;intro w2 b2 E;refine xr 2 rfl<|xne<|xsq<|xsr<|Xw 0 5 E rfl rfl ?_;refine ycB (ZA p _) func26 E ?_;clear E;intro w3 E;refine xne<|xcs 14 rfl (fun cc1=>?_) fun cc1=>?_;refine xct rfl<|xsr ?_;refine yc (Uo 4 (by omega) _) func133 ?_;rintro _ w4 ⟨ao3, cp3, rfl, hs⟩;refine ⟨_, rfl, ?_⟩;replace E := E.ad hs;clear hs;refine xr 2 rfl<|xne<|xre<|xtr<|xb2 results165 rfl rfl ?_;exact .inl ⟨YL, JY cc1, _, _, rfl, (E.o.erS [2,1])⟩;refine xcf rfl<|xsk<|xet<|xsq<|xsr<|Xw 0 5 E rfl rfl ?_;refine ycB (ZR p _) func24 E ?_;clear E;intro w5 E;refine xr 2 rfl<|xcs 19 rfl (fun cc2=>?_) fun cc2=>?_;refine xr 12 rfl<|xne<|xct rfl<|xsr ?_;refine yem 24 5 E ?_;clear E;intro w6 b4 E;refine xr 2 rfl<|xne<|xre<|xtr<|xb2 results165 rfl rfl ?_;have hbad : (p.ok && ((p.aq == level) && decide (p.al ≤ st.av))) = false := by
   have hl : p.ok = false := (by simpa using cc2); rw [hl]; rfl
 exact .inr ⟨VS cc1 hbad, _, _, _, rfl, E.o.bel⟩;have hp : p.ok = true := by simpa using cc2
 refine Xf 4 rfl<|Xl 0 E rfl rfl<|xr 4 rfl<|xcn 25 rfl (fun cc3 dcc3=>?_) fun cc3 dcc3=>?_;refine xr 6 rfl<|xne<|xct rfl<|xsr ?_;refine yem 24 5 E ?_;clear E;intro w7 b5 E;refine xr 2 rfl<|xne<|xre<|xtr<|xb2 results165 rfl rfl ?_;have hbad : (p.ok && ((p.aq == level) && decide (p.al ≤ st.av))) = false := by
   have hl : (p.aq == level) = false := (by simpa using cc3); rw [hl]; simp
 exact .inr ⟨VS cc1 hbad, _, _, _, rfl, E.o.bel⟩;refine Xf 1 rfl<|Xl 0 E rfl rfl<|Xf 3 rfl<|Xl 1 E rfl rfl<|xr 2 rfl<|xne<|xcd 31 rfl (fun _ dcc4=>?_) fun _ dcc4=>?_;refine xct rfl<|xsr ?_;refine yem 24 5 E ?_;clear E;intro w8 b6 E;refine xr 2 rfl<|xne<|xre<|xtr<|xb2 results165 rfl rfl ?_;have hbad : (p.ok && ((p.aq == level) && decide (p.al ≤ st.av))) = false := by
   rw [decide_eq_false (show ¬ p.al ≤ st.av by omega)]; simp
 exact .inr ⟨VS cc1 hbad, _, _, _, rfl, E.o.bel⟩;refine xcf rfl<|xsk<|xet<|xsr<|Xw 1 8 E rfl rfl<|Xw 0 5 E rfl rfl ?_;refine ycB (J3 a0 c0 a1 c1 a2 c2 a4 c4 a6 c6 st p _  (HR.out.below E.o.bel) hrow hp) func96 E ?_;clear E;intro w9 E;refine xr 5 rfl<|xne<|xsq<|xsr<|xr 2 rfl<|xne<|xcs 40 rfl (fun cc5=>?_) fun cc5=>?_;refine xct rfl<|xsr ?_;refine yem 24 5 E ?_;clear E;intro w10 b7 E;refine xr 2 rfl<|xne<|xre<|xtr<|xb2 results165 rfl rfl ?_;have hks := JZ (n := level) hp (show p.al ≤ st.av by omega);exact .inr ⟨hks.trans (Zc1 cc1 (by simpa using cc5)), _, _, _, rfl, E.o.bel⟩;refine xcf rfl<|xsk<|xet<|xsr<|xr 1 rfl ?_;refine yc (ZdY (Zn st p) _ (V0 hrow p)) func191 ?_;rintro _ w11 (⟨l, hfan, ao, cp, rfl, hs1⟩ | ⟨hno, ae, rfl, hb⟩);refine ⟨_, rfl, ?_⟩; replace E := E.ad hs1;clear hs1;refine xr 5 rfl<|xne<|xsq<|xsr<|xr 1 rfl<|xne<|xbl ?_;intro a J;refine Zt (ι := Nat) (fun k a w => (k ≤ l.length ∧ ∀ i, i < k → decide (p.al < (l.getD i PtrD.zero).al) = false) ∧ Fr 64 a [(0, sV a0 c0 a1 c1 a2 c2 a4 c4 a6 c6 st), (1, pV p), (2, .int .i64 level), (3, .pointer (some ⟨b1, 0, none⟩)), (4, .pointer (some ⟨b2, 0, none⟩)), (6, .slice none 0 0), (7, .bool false), (10, .slice ao l.length cp), (11, .bool true), (12, .int .i64 (k : Int))] ∧ St w0 ([Zg PtrD.cells 5 24 (.slice ao l.length cp) l, boxA b2 5 24 (pV p), boxA b1 8 44 (sV a0 c0 a1 c1 a2 c2 a4 c4 a6 c6 st)]) w) (fun k => l.length - k) 0 ⟨⟨Nat.zero_le _, fun i hi => absurd hi (Nat.not_lt_zero _)⟩, J.ls _, E.o⟩ ?_;clear J E; clear a;rintro k a w12 ⟨⟨hk, hno⟩, J, E⟩;replace E := Bx.mk E;have hl4 := hfan.n;revert a;refine xsq<|xsr<|xr 2 rfl<|xy rfl (vn 24 5 rfl)<|xr 1 rfl<|xne<|xcd 50 rfl (fun _ dcc6=>?_) fun _ dcc6=>?_
 refine xct rfl<|xsk<|xet<|xsq<|xbl<|xsq ?_;obtain ⟨g8, rfl, _, _, _, _⟩ := E.o.rowOpen 0 rfl (by omega);intro a J;refine Yf (by kernel_rfl) (by kernel_rfl) E.o ?_;revert a;refine xqr 2 rfl<|xq rfl (fun E=>vx 24 k 5 rfl)<|Qf 1 rfl<|xq rfl (fun E a J=>ylo (v := .int .i64 ((l.getD k PtrD.zero).al)) rfl (J.ev rfl) (E.elem PtrD.cells_len 0 rfl (Zi (xs := l) (j := k) (d := PtrD.zero) (by omega)) 1 _ rfl))<|Qf 1 rfl<|Ql 1 rfl rfl<|xqr 1 rfl ?_;intro a J;refine wpQuiet_nil ?_; intro w13 E; replace E := Bx.mk E;revert a;refine xet<|xcd 60 rfl (fun cc7 dcc7=>?_) fun cc7 dcc7=>?_
 refine xct rfl<|xsr ?_;refine yem 24 5 E ?_;clear E;intro w14 b9 E;refine xr 2 rfl<|xne<|xre<|xbr<|xtr<|xtr<|xbr<|xtr<|xb2 results165 rfl rfl ?_;have hks := JZ (n := level) hp (show p.al ≤ st.av by omega);have hany : l.any (fun k => decide (p.al < k.al)) = true := List.any_eq_true.2 ⟨l.getD k PtrD.zero, (by rw [getD_eq_getElem?_getD, getElem?_eq_getElem (show k < l.length by omega)]; exact List.getElem_mem _), cc7⟩;exact .inr ⟨hks.trans (Zfj cc1 hfan hany), _, _, _, rfl, E.o.bel⟩;refine xcf rfl<|xsk<|xeb<|xet<|xrl<|xr 1 rfl<|xy rfl (vad rfl)<|xr 1 rfl<|xne ?_;have hno1 : ∀ i, i < k + 1 → decide (p.al < (l.getD i PtrD.zero).al) = false := fun i hi => (by omega : i < k ∨ i = k).elim (hno i) fun e => by subst e; exact cc7
 intro a J;exact ⟨k + 1, ⟨⟨by omega, hno1⟩, J.less _ ⟨rfl, rfl, rfl, rfl, rfl, rfl, rfl, rfl, rfl, rfl, trivial⟩, E.o⟩, (by omega)⟩;refine xcf rfl<|xex<|xtx<|xtx<|xbh<|xet<|xsr<|xr 4 rfl<|xne<|xre<|xb2 results165 rfl rfl ?_;have hks := JZ (n := level) hp (show p.al ≤ st.av by omega);have hany : l.any (fun k => decide (p.al < k.al)) = false := List.any_eq_false.2 fun x hx => by
   obtain ⟨i, hi, e⟩ := List.mem_iff_getElem.1 hx;have h1 := hno i (by omega); rw [getD_eq_getElem?_getD, getElem?_eq_getElem hi, getD_some, e] at h1; rw [h1]; simp
 exact .inl ⟨l, hks.trans (ZdR cc1 (by simpa using cc5) (by simpa using cc3) hfan hany), _, _, rfl, (E.o.erS [2,1])⟩;refine ⟨_, rfl, ?_⟩; replace E := Bx.mk (E.o.later hb);clear hb;refine xr 5 rfl<|xne<|xsq<|xsr<|xr 1 rfl<|xne<|xbl ?_;intro a J;refine Zt (ι := Nat) (fun k a w => (k = 0) ∧ Fr 64 a [(0, sV a0 c0 a1 c1 a2 c2 a4 c4 a6 c6 st), (1, pV p), (2, .int .i64 level), (3, .pointer (some ⟨b1, 0, none⟩)), (4, .pointer (some ⟨b2, 0, none⟩)), (6, .slice none 0 0), (7, .bool false), (10, .slice ae 0 0), (11, .bool false), (12, .int .i64 (k : Int))] ∧ St w0 ([boxA b2 5 24 (pV p), boxA b1 8 44 (sV a0 c0 a1 c1 a2 c2 a4 c4 a6 c6 st)]) w) (fun k => 0) 0 ⟨rfl, J.ls _, E.o⟩ ?_;clear J E; clear a;rintro k a w15 ⟨hk0, J, E⟩;replace E := Bx.mk E;revert a;refine xsq<|xsr<|xr 2 rfl<|xy rfl (vn 24 5 rfl)<|xr 1 rfl<|xne<|xcd 50 rfl (fun _ dcc8=>?_) fun _ dcc8=>?_
 exact absurd dcc8 (by omega);refine xcf rfl<|xex<|xtx<|xtx<|xbh<|xet<|xsr<|xr 4 rfl<|xne<|xre<|xb2 results165 rfl rfl ?_;have hks := JZ (n := level) hp (show p.al ≤ st.av by omega);exact .inr ⟨hks.trans (ZdQ cc1 hno), _, _, _, rfl, E.o.bel⟩
structure Zpl (W : World) where
  val : World
  below : Below W.heap.size W val
instance (W : World) : Inhabited (Zpl W) := ⟨⟨W, Below.refl _ _⟩⟩
theorem Zc5 (n : Int) (w0 : World) : Calls prog 19 #[.int .i64 n] w0 fun e w' => e = .returned (.int .i64 ((depthN n : Nat) : Int)) ∧ Below w0.heap.size w0 w' := by
 have E := Bx.mk (St.start w0);refine ent func19 ntmps19 ?_;refine xsr<|xr 1 rfl<|xne<|xsq<|xbl<|xsr<|xr 3 rfl<|xne<|xcd 3 rfl (fun _ dcc1=>?_) fun _ dcc1=>?_;refine xct rfl<|xsr<|xr 1 rfl<|xne<|xre<|xbr<|xtr<|xb1 results19 rfl ?_;have hd : ((depthN n : Nat) : Int) = 0 := by unfold depthN; rw [if_pos (by omega)]; rfl
 exact ⟨by rw [hd], E.o.bel⟩;refine xcf rfl<|xsr<|xr 3 rfl<|xne<|xcd 6 rfl (fun _ dcc2=>?_) fun _ dcc2=>?_;refine xct rfl<|xsr<|xr 1 rfl<|xne<|xre<|xbr<|xtr<|xb1 results19 rfl ?_;have hd : ((depthN n : Nat) : Int) = 1 := by unfold depthN; rw [if_neg (by omega), if_pos (by omega)]; rfl
 exact ⟨by rw [hd], E.o.bel⟩;refine xcf rfl<|xsk<|xeb<|xet<|xsr<|xr 1 rfl<|xne<|xre<|xb1 results19 rfl ?_;have hd : ((depthN n : Nat) : Int) = 2 := by unfold depthN; rw [if_neg (by omega), if_neg (by omega)]; rfl
 exact ⟨by rw [hd], E.o.bel⟩
theorem V1 (n : Int) (w0 : World) : Calls prog 23 #[.int .i64 n] w0 fun e w' => e = .returned (.int .i64 ((depthN n : Nat) : Int)) ∧ Below w0.heap.size w0 w' := by
 have E := Bx.mk (St.start w0);refine ent func23 ntmps23 ?_;refine xsr<|xr 1 rfl<|xne<|xsq<|xbl<|xsr<|xr 3 rfl<|xne<|xcd 3 rfl (fun _ dcc1=>?_) fun _ dcc1=>?_;refine xct rfl<|xsr<|xr 1 rfl<|xne<|xre<|xbr<|xtr<|xb1 results23 rfl ?_;have hd : ((depthN n : Nat) : Int) = 0 := by unfold depthN; rw [if_pos (by omega)]; rfl
 exact ⟨by rw [hd], E.o.bel⟩;refine xcf rfl<|xsr<|xr 3 rfl<|xne<|xcd 6 rfl (fun _ dcc2=>?_) fun _ dcc2=>?_;refine xct rfl<|xsr<|xr 1 rfl<|xne<|xre<|xbr<|xtr<|xb1 results23 rfl ?_;have hd : ((depthN n : Nat) : Int) = 1 := by unfold depthN; rw [if_neg (by omega), if_pos (by omega)]; rfl
 exact ⟨by rw [hd], E.o.bel⟩;refine xcf rfl<|xsk<|xeb<|xet<|xsr<|xr 1 rfl<|xne<|xre<|xb1 results23 rfl ?_;have hd : ((depthN n : Nat) : Int) = 2 := by unfold depthN; rw [if_neg (by omega), if_neg (by omega)]; rfl
 exact ⟨by rw [hd], E.o.bel⟩
theorem UN {xs : List PtrD} {i : Nat} (h : i < xs.length) : xs.drop i = xs.getD i PtrD.zero :: xs.drop (i + 1) := by
 rw [List.drop_eq_getElem_cons h, getD_eq_getElem?_getD, getElem?_eq_getElem h, getD_some]
theorem Zkm {f : PtrD → Option (List PtrD)} {xs ys k : List PtrD} {i : Nat} (h : YU f xs = (YU f (xs.drop i)).map (ys ++ ·)) (hi : i < xs.length) (hk : f (xs.getD i PtrD.zero) = some k) : YU f xs = (YU f (xs.drop (i + 1))).map ((ys ++ k) ++ ·) := by
 rw [h, UN hi, Zat hk, Znt]
theorem Zkn {f : PtrD → Option (List PtrD)} {xs ys : List PtrD} {i : Nat} (h : YU f xs = (YU f (xs.drop i)).map (ys ++ ·)) (hi : i < xs.length) (hk : f (xs.getD i PtrD.zero) = none) : YU f xs = none := by
 rw [h, UN hi, VT hk]; rfl
theorem Zl9 {f : PtrD → Option (List PtrD)} {xs ys : List PtrD} {i : Nat} (h : YU f xs = (YU f (xs.drop i)).map (ys ++ ·)) (hi : ¬ i < xs.length) : YU f xs = some ys := by
 rw [h, List.drop_eq_nil_of_le (by omega)];show some (ys ++ []) = _;rw [append_nil]
theorem ZiE {f : PtrD → Option (List PtrD)} {xs : List PtrD} : YU f xs = (YU f (xs.drop 0)).map (([] : List PtrD) ++ ·) := by
 rw [drop_zero]
 cases YU f xs <;> rfl
theorem Qc {st : Za} {many : Int} {xs : List PtrD} {i : Nat} (h : Qa st many 0 xs = Qa st many i (xs.drop i)) (hi : i < xs.length) : Qa st many 0 xs = (ZaJ st many i (xs.getD i PtrD.zero) && Qa st many (i + 1) (xs.drop (i + 1))) := by
 rw [h, UN hi]; rfl
theorem Zhn {st : Za} {many : Int} {xs : List PtrD} {i : Nat} (h : Qa st many 0 xs = Qa st many i (xs.drop i)) (hi : ¬ i < xs.length) : Qa st many 0 xs = true := by
 rw [h, List.drop_eq_nil_of_le (by omega)]; rfl
theorem YN {xs : List PtrD} {i : Nat} (h : i < xs.length) : xs.getD i PtrD.zero ∈ xs := by
 rw [getD_eq_getElem?_getD, getElem?_eq_getElem h]; exact List.getElem_mem h
theorem Zma {n : Nat} (h : n ≤ 2) : 4 ^ n ≤ 16 := by
 rcases (by omega : n = 0 ∨ n = 1 ∨ n = 2) with rfl | rfl | rfl <;> decide
theorem Zko {xs ys : List PtrD} {n i : Nat} (h : xs.length * 4 ^ (n + 1) ≤ 16) (hy : ys.length = 4 * i) (hi : i = xs.length) : ys.length * 4 ^ n ≤ 16 := by
 subst hi;rw [hy];rw [Nat.pow_succ] at h;have e : 4 * xs.length * 4 ^ n = xs.length * (4 ^ n * 4) := by rw [Nat.mul_comm 4 xs.length, Nat.mul_assoc, Nat.mul_comm 4 (4 ^ n)]
 omega
theorem Znz {xs : List PtrD} {n : Nat} (h : xs.length * 4 ^ n ≤ 16) : xs.length ≤ 16 := by
 have h1 : 1 ≤ 4 ^ n := Nat.pos_of_ne_zero (by simp);have : xs.length * 1 ≤ xs.length * 4 ^ n := Nat.mul_le_mul_left _ h1
 omega
theorem Qd {st : Za} {p : PtrD} {n : Int} {k : List PtrD} (h : kidsS st p n = some k) : k.length = 4 := VX (UL h).1
theorem ZbU (a0 : Option Addr) (c0 : Nat) (a1 : Option Addr) (c1 : Nat) (a2 : Option Addr) (c2 : Nat) (a4 : Option Addr) (c4 : Nat) (a6 : Option Addr) (c6 : Nat) (st : Za) (t : Ze) (hdep : t.aw = ((depthN t.ai : Nat) : Int)) (w0 : World) (hR : Rd Zu 1 w0 a0 st.ac.length st.ac) (hrow : Xv st) : Calls prog 132 #[sV a0 c0 a1 c1 a2 c2 a4 c4 a6 c6 st, tV t] w0 fun e w' => (∃ l, downL (kidsS st) (depthN t.ai) [t.af] = some l ∧ ∃ ao cp, e = .returned (.tuple #[.slice ao l.length cp, .bool true]) ∧ St w0 [Zg PtrD.cells 5 24 (.slice ao l.length cp) l] w') ∨ (downL (kidsS st) (depthN t.ai) [t.af] = none ∧ ∃ ao n cp, e = .returned (.tuple #[.slice ao n cp, .bool false]) ∧ Below w0.heap.size w0 w') := by
 have HR := Bx.mk hR; clear hR;have E := Bx.mk (St.start w0);refine ent func132 ntmps132 ?_;refine xsr ?_;refine ybx E ?_;clear E;intro w1 b1 E;refine ybx E ?_;clear E;intro w2 b2 E;refine xr 2 rfl<|xne<|xsr<|Xf 0 rfl<|Xw 0 5 E rfl rfl ?_;refine ybs PtrD.cells 24 5 [t.af] E ?_;clear E;intro b3 w3 E;refine xr 1 rfl<|xne<|xsq<|xsr<|Xf 5 rfl<|Xl 1 E rfl rfl<|xr 1 rfl<|xne<|xbl ?_;replace E:=E.pks [0];intro a J;refine Zt (ι := Nat) (fun n a w => ∃ (ao : Option Addr) (cp : Nat) (xs : List PtrD), (downL (kidsS st) (depthN t.ai) [t.af] = downL (kidsS st) n xs ∧ xs.length * 4 ^ n ≤ 16 ∧ n ≤ 2) ∧ Fr 46 a [(0, sV a0 c0 a1 c1 a2 c2 a4 c4 a6 c6 st), (1, tV t), (2, .pointer (some ⟨b1, 0, none⟩)), (3, .pointer (some ⟨b2, 0, none⟩)), (4, .slice none 0 0), (5, .bool false), (6, .slice ao xs.length cp), (7, .int .i64 (n : Int))] ∧ St w0 ([Zg PtrD.cells 5 24 (.slice ao xs.length cp) xs, boxA b2 7 26 (tV t), boxA b1 8 44 (sV a0 c0 a1 c1 a2 c2 a4 c4 a6 c6 st)]) w) (fun n => n) (depthN t.ai) ⟨_, _, [t.af], ⟨rfl, by simpa using Zma (YV t.ai), YV _⟩, J.less _ ⟨rfl, rfl, rfl, rfl, rfl, rfl, rfl, (by show some (Value.int .i64 _) = some (Value.int .i64 _); exact congrArg (fun z => some (Value.int .i64 z)) hdep), trivial⟩, E.o⟩ ?_;clear J E; clear a;rintro n a w4 ⟨ao, cp, xs, ⟨hd, hp4, hn2⟩, J, E⟩;replace E := Bx.mk E;have hx16 := Znz hp4;revert a;refine xsq<|xsr<|xr 2 rfl<|xne<|xcd 18 rfl (fun _ dcc1=>?_) fun _ dcc1=>?_
 obtain ⟨n, rfl⟩ : ∃ m, n = m + 1 := ⟨n - 1, by omega⟩;refine xct rfl<|xsk<|xet<|xsq<|xbl<|xsr ?_;refine yem 24 5 E ?_;clear E;intro w5 b4 E;refine xr 1 rfl<|xne<|xsq<|xsr<|xr 1 rfl<|xne<|xbl ?_;replace E := Bx.mk (E.o.nilRow PtrD.cells 5 24 (some ⟨b4, 0, none⟩));intro a J;refine Zt (ι := Nat) (fun i a w => ∃ (ay : Option Addr) (cy : Nat) (ys : List PtrD), (i ≤ xs.length ∧ YU (fun p => kidsS st p ((n + 1 : Nat) : Int)) xs = (YU (fun p => kidsS st p ((n + 1 : Nat) : Int)) (xs.drop i)).map (ys ++ ·) ∧ ys.length = 4 * i) ∧ Fr 46 a [(0, sV a0 c0 a1 c1 a2 c2 a4 c4 a6 c6 st), (1, tV t), (2, .pointer (some ⟨b1, 0, none⟩)), (3, .pointer (some ⟨b2, 0, none⟩)), (4, .slice none 0 0), (5, .bool false), (6, .slice ao xs.length cp), (7, .int .i64 ((n + 1 : Nat) : Int)), (8, .slice ay ys.length cy), (9, .int .i64 (i : Int))] ∧ St w0 ([Zg PtrD.cells 5 24 (.slice ay ys.length cy) ys, Zg PtrD.cells 5 24 (.slice ao xs.length cp) xs, boxA b2 7 26 (tV t), boxA b1 8 44 (sV a0 c0 a1 c1 a2 c2 a4 c4 a6 c6 st)]) w) (fun i => xs.length - i) 0 ⟨_, _, [], ⟨Nat.zero_le _, ZiE, rfl⟩, J.ls _, E.o⟩ ?_;clear J E; clear a;rintro i a w6 ⟨ay, cy, ys, ⟨hi, hnx, hyl⟩, J, E⟩;replace E := Bx.mk E;revert a;refine xsq<|xsr<|xr 2 rfl<|xy rfl (vn 24 5 rfl)<|xr 1 rfl<|xne<|xcd 25 rfl (fun _ dcc2=>?_) fun _ dcc2=>?_
 refine xct rfl<|xsk<|xet<|xsq<|xbl<|xsq ?_;obtain ⟨g5, rfl, _, _, _, _⟩ := E.o.rowOpen 1 rfl (by omega);refine hld [] E ?_;clear E;intro w7 E M;refine Hw 0 3 8 E rfl rfl<|Hp 1 E rfl<|Hp 2 E rfl<|xhy 3 E.o rfl rfl (fun E=>vx 24 i 5 rfl)<|xhy 4 E.o rfl rfl (fun E a J=>ylr (cs := pL (xs.getD i PtrD.zero)) rfl (J.ev rfl) (E.elem PtrD.cells_len 1 rfl (Zi (xs := xs) (j := i) (d := PtrD.zero) (by omega))))<|Hp 5 E rfl ?_;refine Zk 6 ?_;refine yo (Up a0 c0 a1 c1 a2 c2 a4 c4 a6 c6 st (xs.getD i PtrD.zero) ((n + 1 : Nat) : Int) _ (HR.out.below M.o.bel) hrow) func165 ?_;rintro _ w9 (⟨l6, hk6, ao6, cp6, rfl, hs1⟩ | ⟨hk6, ao6, nn6, cp6, rfl, hb⟩);have hll6 := Qd hk6;refine ⟨_, rfl, ?_⟩; replace E := Bx.mk (E.o.later hs1.bel); replace M := M.ad hs1;clear hs1;intro a J;replace M:=M.nm; refine ⟨E.o, ?_⟩;revert a;refine Hp 7 E rfl<|Hp 8 E rfl<|Hp 9 E rfl<|Hp 10 E rfl<|Hp 11 E rfl ?_;refine hdn ?_;replace E := M; clear M;refine xet<|xsq<|xsr<|xr 2 rfl<|xne<|xcf rfl<|xsk<|xet<|xrl<|xr 2 rfl ?_;refine yap Xu PtrD.cells_len E 1 (St.rdOf E.o PtrD.cells_len 0 rfl) (Zz _) ?_;clear E;intro ao7 cp8 w10 E;refine xr 1 rfl<|xni<|xeb<|xet<|xrl<|xr 1 rfl<|xy rfl (vad rfl)<|xr 1 rfl<|xne ?_;have hz : ys.length + l6.length = (ys ++ l6).length := (length_append ..).symm;intro a J;rw [hz] at E J;have hl4 := Qd hk6; have hyl2 : (ys ++ l6).length = 4 * (i + 1) := by rw [length_append]; omega
 replace E:=E.pks [4,4,4,4];exact ⟨i + 1, ⟨_, _, ys ++ l6, ⟨by omega, Zkm hnx (by omega) hk6, hyl2⟩, J.less _ ⟨rfl, rfl, rfl, rfl, rfl, rfl, rfl, rfl, rfl, rfl, trivial⟩, (E.o.erase 4)⟩, (by omega)⟩;refine ⟨_, rfl, ?_⟩; replace E := Bx.mk (E.o.later hb); replace M := Bx.mk (M.o.later hb);clear hb; refine onb E.o ?_;refine Hp 7 E rfl<|Hp 8 E rfl<|Hp 9 E rfl<|Hp 10 E rfl<|Hp 11 E rfl ?_;refine hdn ?_;replace E := M; clear M;refine xet<|xsq<|xsr<|xr 2 rfl<|xne<|xct rfl<|xsr ?_;refine yem 24 5 E ?_;clear E;intro w11 b9 E;refine xr 2 rfl<|xne<|xre<|xtr<|xbr<|xtr<|xtr<|xbr<|xtr<|xbr<|xtr<|xtr<|xbr<|xtr<|xb2 results132 rfl rfl ?_;exact .inr ⟨hd.trans (J0 (Zkn hnx (by omega) hk6)), _, _, _, rfl, E.o.bel⟩;refine xcf rfl<|xex<|xtx<|xtx<|xbh<|xet<|xrl<|xr 2 rfl<|xni<|xeb<|xet<|xrl<|xr 1 rfl<|xy rfl (fun a J=>ZO (r := (n : Int)) rfl (J.ev rfl) (J.ev rfl) ((Yi (by omega)).trans (by omega)))<|xr 1 rfl<|xne ?_;replace E:=E.pks [3,3,2];intro a J;exact ⟨n, ⟨_, _, ys, ⟨(hd.trans (JG (Zl9 hnx (by omega)))), Zko hp4 hyl (by omega), by omega⟩, J.less _ ⟨rfl, rfl, rfl, rfl, rfl, rfl, rfl, rfl, trivial⟩, (E.o.erase 3)⟩, (Nat.lt_succ_self _)⟩;obtain rfl : n = 0 := by omega
 refine xcf rfl<|xex<|xtx<|xtx<|xbh<|xet<|xsr<|xr 3 rfl<|xne<|xre<|xb2 results132 rfl rfl ?_;exact .inl ⟨xs, hd, _, _, rfl, (E.o.erS [2,1])⟩
theorem Zho {st : Za} : ∀ {n : Nat} {l m : List PtrD}, (∀ p ∈ l, p.ok = true) → downL (kidsS st) n l = some m → ∀ p ∈ m, p.ok = true
 | 0, l, m, h, hd => by obtain rfl : l = m := Option.some.inj hd; exact h
 | n + 1, l, m, h, hd => by
  cases hn : YU (fun p => kidsS st p ((n + 1 : Nat) : Int)) l with
  | none => rw [J0 hn] at hd; cases hd
  | some x =>
   rw [JG hn] at hd;refine Zho (fun q hq => ?_) hd;obtain ⟨p, _, k, hk, hq⟩ := (Zcq hn).2.1 q hq;exact (QT (UL hk).1).2.1 q hq
theorem ZiF {st : Za} {many : Int} {i : Nat} {p : PtrD} (h : p.hole = true) : ZaJ st many i p = true := by unfold ZaJ; rw [h]; rfl
theorem V2 {st : Za} {many : Int} {i : Nat} {p : PtrD} (h : p.hole = false) : ZaJ st many i p = (XQ st p && ((p.aq == 0) && (decide (p.al ≤ st.av) && decide ((i : Int) < many)))) := by unfold ZaJ; rw [h]; rfl
theorem Zmb (a0 : Option Addr) (c0 : Nat) (a1 : Option Addr) (c1 : Nat) (a2 : Option Addr) (c2 : Nat) (a4 : Option Addr) (c4 : Nat) (a6 : Option Addr) (c6 : Nat) (st : Za) (t : Ze) (w0 : World) (hR : Rd Zu 1 w0 a0 st.ac.length st.ac) (hrow : Xv st) : Calls prog 184 #[sV a0 c0 a1 c1 a2 c2 a4 c4 a6 c6 st, tV t] w0 fun e w' => e = .returned (.bool (okS st t)) ∧ Below w0.heap.size w0 w' := by
 have HR := Bx.mk hR; clear hR;have E := Bx.mk (St.start w0);refine ent func184 ntmps184 ?_;refine xsr ?_;refine ybx E ?_;clear E;intro w1 b1 E;refine ybx E ?_;clear E;intro w2 b2 E;refine xr 1 rfl<|xne<|xsq<|xsq ?_;intro a J;refine Yf (by kernel_rfl) (by kernel_rfl) E.o ?_;revert a;refine Qf 6 rfl<|Ql 0 rfl rfl ?_;refine yq (fun _ E => ((Yb t.ai 0 16 _).mono fun _ _ h => ⟨h.1, h.2 ▸ Below.refl _ _⟩)) func25 ?_;refine xqr 2 rfl<|xcs 15 rfl (fun cc1=>?_) fun cc1=>?_;refine xqr 13 rfl ?_;intro a J;refine wpQuiet_nil ?_; intro w3 E; replace E := Bx.mk E;revert a;refine xet<|xct rfl<|xsr<|xr 1 rfl<|xne<|xre<|xtr<|xb1 results184 rfl ?_;have htop : Za4 t = false := by
   have h : inB t.ai 0 16 = false := (by simpa using cc1); unfold Za4; rw [h]; rfl
 exact ⟨by rw [Zdr htop], E.o.bel⟩;have inT : inB t.ai 0 16 = true := by simpa using cc1
 refine Qf 5 rfl<|Ql 0 rfl rfl<|Qf 6 rfl<|Ql 0 rfl rfl ?_;refine yqg (fun _ E => V1 t.ai _) func23 ?_;refine xqr 3 rfl<|xcn 23 rfl (fun _ dcc2=>?_) fun _ dcc2=>?_;refine xqr 5 rfl ?_;intro a J;refine wpQuiet_nil ?_; intro w4 E; replace E := Bx.mk E;revert a;refine xet<|xct rfl<|xsr<|xr 1 rfl<|xne<|xre<|xtr<|xb1 results184 rfl ?_;have htop : Za4 t = false := by
   have h : (t.aw == ((depthN t.ai : Nat) : Int)) = false := (by simpa using dcc2); unfold Za4; rw [h]; simp
 exact ⟨by rw [Zdr htop], E.o.bel⟩;have hdep : t.aw = ((depthN t.ai : Nat) : Int) := dcc2;refine Qf 0 rfl<|Qw 0 5 rfl rfl ?_;refine yqg (fun _ E => ZR t.af _) func24 ?_;refine xqr 2 rfl ?_;intro a J;refine wpQuiet_nil ?_; intro w5 E; replace E := Bx.mk E;revert a;refine xet<|xcs 28 rfl (fun cc3=>?_) fun cc3=>?_
 refine xct rfl<|xsr<|xr 1 rfl<|xne<|xre<|xtr<|xb1 results184 rfl ?_;have htop : Za4 t = false := by
   have h : t.af.ok = false := (by simpa using cc3); unfold Za4; rw [h]; simp
 exact ⟨by rw [Zdr htop], E.o.bel⟩;have hok : t.af.ok = true := by simpa using cc3
 have htop : Za4 t = true := by unfold Za4; rw [hok, inT, beq_iff_eq.2 hdep]; rfl
 refine xcf rfl<|xsk<|xet<|xsr<|Xw 1 8 E rfl rfl<|Xw 0 7 E rfl rfl ?_;refine yc (ZbU a0 c0 a1 c1 a2 c2 a4 c4 a6 c6 st t hdep _ (HR.out.below E.o.bel) hrow) func132 ?_;rintro _ w6 (⟨l3, hk3, ao3, cp3, rfl, hs1⟩ | ⟨hk3, ao3, nn3, cp3, rfl, hb⟩);refine ⟨_, rfl, ?_⟩; replace E := E.ad hs1;clear hs1;refine xr 5 rfl<|xne<|xsq<|xsr<|xr 2 rfl<|xne<|xcf rfl<|xsk<|xet<|xsq<|xsq ?_;have hoks := Zho (fun p hp => by rw [mem_singleton.1 hp]; exact hok) hk3; have hll : l3.length ≤ 16 := by rw [Zcr (fun p n k => Qd) hk3]; simpa using Zma (YV t.ai)
 refine xrl<|xr 1 rfl<|xne<|xbl ?_;intro a J;refine Zt (ι := Nat) (fun i a w => (i ≤ l3.length ∧ Qa st t.ai 0 l3 = Qa st t.ai i (l3.drop i)) ∧ Fr 75 a [(0, sV a0 c0 a1 c1 a2 c2 a4 c4 a6 c6 st), (1, tV t), (2, .pointer (some ⟨b1, 0, none⟩)), (3, .pointer (some ⟨b2, 0, none⟩)), (4, .bool false), (5, .slice ao3 l3.length cp3), (6, .bool true), (7, .int .i64 (i : Int))] ∧ St w0 ([Zg PtrD.cells 5 24 (.slice ao3 l3.length cp3) l3, boxA b2 7 26 (tV t), boxA b1 8 44 (sV a0 c0 a1 c1 a2 c2 a4 c4 a6 c6 st)]) w) (fun i => l3.length - i) 0 ⟨⟨Nat.zero_le _, by rw [drop_zero]⟩, J.less _ ⟨rfl, rfl, rfl, rfl, rfl, rfl, rfl, rfl, trivial⟩, E.o⟩ ?_;clear J E; clear a;rintro i a w7 ⟨⟨hi, hlv⟩, J, E⟩;replace E := Bx.mk E;revert a;refine xsq<|xsr<|xr 2 rfl<|xy rfl (vn 24 5 rfl)<|xr 1 rfl<|xne<|xcd 40 rfl (fun _ dcc4=>?_) fun _ dcc4=>?_
 refine xct rfl<|xsk<|xet<|xsq<|xbl<|xsq ?_;obtain ⟨g4, rfl, _, _, _, _⟩ := E.o.rowOpen 0 rfl (by omega);refine xrl<|xr 2 rfl<|xy rfl (vx 24 i 5 rfl)<|xy rfl (fun a J=>ylr (cs := pL (l3.getD i PtrD.zero)) rfl (J.ev rfl) (E.o.elem PtrD.cells_len 0 rfl (Zi (xs := l3) (j := i) (d := PtrD.zero) (by omega)))) ?_;refine yal z5 E ?_;clear E;intro w8 b5 E;refine yst E 0 ?_;clear E;intro w9 E;replace E:=E.nm;refine xne<|xsq<|xsr<|Xw 0 5 E rfl rfl ?_;refine ycB (ZA (l3.getD i PtrD.zero) _) func26 E ?_;clear E;intro w10 E;refine xne<|xcs 48 rfl (fun cc5=>?_) fun cc5=>?_;refine xct rfl<|xex<|xtx<|xbh<|xet<|xrl<|xr 1 rfl<|xy rfl (vad rfl)<|xr 1 rfl<|xne ?_;have hst := Qc hlv (show i < l3.length by omega);rw [ZiF cc5, Bool.true_and] at hst;replace E:=E.pks [3,3,3];intro a J;exact ⟨i + 1, ⟨⟨by omega, hst⟩, J.less _ ⟨rfl, rfl, rfl, rfl, rfl, rfl, rfl, rfl, trivial⟩, (E.o.erase 3)⟩, (by omega)⟩;refine xcf rfl<|xsk<|xet<|xsr<|Xw 3 8 E rfl rfl<|Xw 0 5 E rfl rfl ?_;refine ycB (J3 a0 c0 a1 c1 a2 c2 a4 c4 a6 c6 st (l3.getD i PtrD.zero) _  (HR.out.below E.o.bel) hrow (hoks _ (YN (by omega)))) func96 E ?_;clear E;intro w11 E;refine xr 5 rfl<|xne<|xsr<|xr 3 rfl<|xcs 57 rfl (fun cc6=>?_) fun cc6=>?_;refine xr 17 rfl<|xne<|xct rfl<|xsr<|xr 1 rfl<|xne<|xre<|xbr<|xtr<|xtr<|xbr<|xtr<|xb1 results184 rfl ?_;have hst := Qc hlv (show i < l3.length by omega); rw [V2 cc5] at hst;have hb1 : XQ st (l3.getD i PtrD.zero) = false := (by simpa using cc6); rw [hb1] at hst; simp only [Bool.false_and] at hst;exact ⟨by rw [Za5 htop hk3, hst], E.o.bel⟩;refine Xf 4 rfl<|Xl 0 E rfl rfl<|xr 3 rfl<|xcn 62 rfl (fun cc7 dcc7=>?_) fun cc7 dcc7=>?_;refine xr 12 rfl<|xne<|xct rfl<|xsr<|xr 1 rfl<|xne<|xre<|xbr<|xtr<|xtr<|xbr<|xtr<|xb1 results184 rfl ?_;have hst := Qc hlv (show i < l3.length by omega); rw [V2 cc5] at hst;have hb1 : ((l3.getD i PtrD.zero).aq == 0) = false := (by simpa using dcc7); rw [hb1] at hst; simp only [Bool.false_and, Bool.and_false] at hst;exact ⟨by rw [Za5 htop hk3, hst], E.o.bel⟩;refine Xf 1 rfl<|Xl 0 E rfl rfl<|Xf 3 rfl<|Xl 3 E rfl rfl<|xr 3 rfl<|xcd 69 rfl (fun _ dcc8=>?_) fun _ dcc8=>?_;refine xr 5 rfl<|xne<|xct rfl<|xsr<|xr 1 rfl<|xne<|xre<|xbr<|xtr<|xtr<|xbr<|xtr<|xb1 results184 rfl ?_;have hst := Qc hlv (show i < l3.length by omega); rw [V2 cc5] at hst;rw [decide_eq_false (show ¬ (l3.getD i PtrD.zero).al ≤ st.av by omega)] at hst; simp only [Bool.false_and, Bool.and_false] at hst;exact ⟨by rw [Za5 htop hk3, hst], E.o.bel⟩;refine xr 1 rfl<|Xf 6 rfl<|Xl 2 E rfl rfl<|xr 2 rfl<|xne<|xcd 74 rfl (fun _ dcc9=>?_) fun _ dcc9=>?_;refine xct rfl<|xsr<|xr 1 rfl<|xne<|xre<|xbr<|xtr<|xtr<|xbr<|xtr<|xb1 results184 rfl ?_;have hst := Qc hlv (show i < l3.length by omega); rw [V2 cc5] at hst;rw [decide_eq_false (show ¬ (i : Int) < t.ai by omega)] at hst; simp only [Bool.false_and, Bool.and_false] at hst;exact ⟨by rw [Za5 htop hk3, hst], E.o.bel⟩;refine xcf rfl<|xsk<|xeb<|xet<|xrl<|xr 1 rfl<|xy rfl (vad rfl)<|xr 1 rfl<|xne ?_;have hst := Qc hlv (show i < l3.length by omega);have hrb : XQ st (l3.getD i PtrD.zero) = true := (by simpa using cc6); have hlv0 : ((l3.getD i PtrD.zero).aq == 0) = true := (by simpa using cc7);rw [V2 cc5, hrb, hlv0, decide_eq_true (show (l3.getD i PtrD.zero).al ≤ st.av by omega), decide_eq_true (show (i : Int) < t.ai by omega)] at hst; simp only [Bool.and_self, Bool.true_and] at hst;replace E:=E.pks [3,3,3];intro a J;exact ⟨i + 1, ⟨⟨by omega, hst⟩, J.less _ ⟨rfl, rfl, rfl, rfl, rfl, rfl, rfl, rfl, trivial⟩, (E.o.erase 3)⟩, (by omega)⟩;refine xcf rfl<|xex<|xtx<|xtx<|xbh<|xet<|xsr<|xr 1 rfl<|xne<|xre<|xb1 results184 rfl ?_;exact ⟨by rw [Za5 htop hk3, Zhn hlv (by omega)], E.o.bel⟩;refine ⟨_, rfl, ?_⟩; replace E := Bx.mk (E.o.later hb);clear hb;refine xr 5 rfl<|xne<|xsq<|xsr<|xr 2 rfl<|xne<|xct rfl<|xsr<|xr 1 rfl<|xne<|xre<|xtr<|xb1 results184 rfl ?_;exact ⟨by rw [ZdV hk3], E.o.bel⟩
theorem ZoD {s : ByteArray} {n k : Nat} (h : l1S s n k) : k ≤ 9 := by
 rcases h with ⟨h, _⟩ | ⟨_, rfl, _⟩
 ·exact h
 ·decide
theorem ZoE {b : UInt8} (h : ((b.toNat : Nat) : Int) = 58) : b = 58 := UInt8.toNat_inj.1 (by show b.toNat = 58; omega)
theorem Zhp {s : ByteArray} {xs : List ByteArray} {r : ByteArray} (h : Ug s xs r) (hs : s.size ≤ 1000000) : szs xs := fun k => by
 by_cases hk : k < xs.length
 ·have h1 := YD xs hk
  have h2 := congrArg List.length h.is;rw [length_append, ← Zh, ← Zh] at h2
  omega
 ·rw [getD_eq_getElem?_getD, List.getElem?_eq_none (by omega)]; decide
theorem V3 {l : List ByteArray} (h : (Ym l).2 = true) : l.length ≤ 60 ∧ (Ym l).1 = Z3 l ∧ (Z3 l).size ≤ 2048 := by
 unfold Ym at h ⊢
 split at h
 ·next e => rw [if_pos e]; exact ⟨e.1, rfl, e.2⟩
 ·cases h
theorem ZbV (s : ByteArray) (w0 : World) (hs : s.size ≤ 1000000) : Calls prog 38 #[.string s] w0 fun e w' => (∃ xs, IsRec s xs ∧ s.size ≤ 2048 ∧ ∃ ao cp, e = .returned (.tuple #[.slice ao xs.length cp, .bool true]) ∧ St w0 [Zg Zu 1 9 (.slice ao xs.length cp) xs] w') ∨ ((∀ l, IsRec s l → s.size ≤ 2048 → False) ∧ ∃ ao, e = .returned (.tuple #[.slice ao 0 0, .bool false]) ∧ Below w0.heap.size w0 w') := by
 have E := Bx.mk (St.start w0);refine ent func38 ntmps38 ?_;refine xsr<|xr 2 rfl<|xne<|xsr ?_;refine yem 9 1 E ?_;clear E;intro w1 b1 E;refine xr 1 rfl<|xne<|xsr<|xr 1 rfl<|xne<|xsq<|xbl ?_;replace E := Bx.mk (E.o.nilRow Zu 1 9 (some ⟨b1, 0, none⟩));intro a J;refine Zt (ι := Nat) (fun p a w => ∃ (ao : Option Addr) (cp : Nat) (xs : List ByteArray), (p ≤ s.size ∧ xs.length ≤ p ∧ Ug s xs (s.extract p s.size) ∧ (p ≠ 0 → s.size ≤ 2048)) ∧ Fr 92 a [(0, .string s), (2, .slice none 0 0), (3, .bool false), (4, .slice ao xs.length cp), (5, .int .i64 (p : Int))] ∧ St w0 ([Zg Zu 1 9 (.slice ao xs.length cp) xs]) w) (fun p => s.size - p) 0 ⟨_, _, [], ⟨Nat.zero_le _, Nat.zero_le _, by rw [show s.extract 0 s.size = s from ByteArray.extract_zero_size]; exact Ug.zero s, fun h => absurd rfl h⟩, J.ls _, E.o⟩ ?_;clear J E; clear a;rintro p a w2 ⟨ao, cp, xs, ⟨hp, hxp, hto, hps⟩, J, E⟩;replace E := Bx.mk E;revert a;refine xsq<|xsr<|xr 2 rfl<|xy rfl (fun a J=>ZM rfl (J.ev rfl) (by kernel_rfl))<|xr 2 rfl<|xcd 15 rfl (fun _ dcc1=>?_) fun _ dcc1=>?_
 refine xr 1 rfl<|xy rfl (fun a J=>ZM rfl (J.ev rfl) (by kernel_rfl))<|xr 2 rfl<|xne<|xcd 19 rfl (fun _ dcc2=>?_) fun _ dcc2=>?_;refine xct rfl<|xsk<|xet<|xbl<|xsr<|xr 2 rfl<|xy rfl (fun a J=>Qu (k := p) rfl (J.ev rfl) (J.ev rfl) (by kernel_rfl) (by omega) (by omega)) ?_;refine yc (Zfh (s.extract p s.size) _ (by rw [size_extract]; omega)) func61 ?_;rintro _ w3 ⟨n, k, hl1, hn9, rfl, hb⟩;refine ⟨_, rfl, ?_⟩; replace E := Bx.mk (E.o.later hb);clear hb;have hk9 := ZoD hl1;refine xr 5 rfl<|xne<|xsq<|xsr<|xr 3 rfl<|xce 29 rfl (fun _ dcc3=>?_) fun _ dcc3=>?_;refine xr 26 rfl<|xne<|xct rfl<|xsr ?_;refine yem 9 1 E ?_;clear E;intro w4 b2 E;refine xr 2 rfl<|xne<|xre<|xtr<|xbr<|xtr<|xbr<|xtr<|xb2 results38 rfl rfl ?_;refine .inr ⟨fun l h h2 => ?_, _, rfl, E.o.bel⟩;obtain ⟨q0, q1, q2, q3⟩ := Zgd hto hl1 h h2 (by omega)
 omega
 refine xr 2 rfl<|xy rfl (vad rfl)<|xr 1 rfl<|xy rfl (fun a J=>ZM rfl (J.ev rfl) (by kernel_rfl))<|xr 3 rfl<|xcd 37 rfl (fun _ dcc4=>?_) fun _ dcc4=>?_;refine xr 18 rfl<|xne<|xct rfl<|xsr ?_;refine yem 9 1 E ?_;clear E;intro w5 b3 E;refine xr 2 rfl<|xne<|xre<|xtr<|xbr<|xtr<|xbr<|xtr<|xb2 results38 rfl rfl ?_;refine .inr ⟨fun l h h2 => ?_, _, rfl, E.o.bel⟩;obtain ⟨q0, q1, q2, q3⟩ := Zgd hto hl1 h h2 (by omega)
 omega
 refine xr 3 rfl<|xy rfl (vad rfl)<|xy rfl (fun a J=>YQ (i := p + k) rfl (J.ev rfl) (J.ev rfl) (by kernel_rfl) (by omega) (by omega))<|xr 3 rfl<|xcn 45 rfl (fun _ dcc5=>?_) fun _ dcc5=>?_;refine xr 10 rfl<|xne<|xct rfl<|xsr ?_;refine yem 9 1 E ?_;clear E;intro w6 b4 E;refine xr 2 rfl<|xne<|xre<|xtr<|xbr<|xtr<|xbr<|xtr<|xb2 results38 rfl rfl ?_;refine .inr ⟨fun l h h2 => ?_, _, rfl, E.o.bel⟩;obtain ⟨q0, q1, q2, q3⟩ := Zgd hto hl1 h h2 (by omega);have hq := congrArg UInt8.toNat q2; have h58 : (58 : UInt8).toNat = 58 := rfl; omega;refine xr 2 rfl<|xy rfl (fun a J=>ZM rfl (J.ev rfl) (by kernel_rfl))<|xr 1 rfl<|xy rfl (fun a J=>ZO rfl (J.ev rfl) (J.ev rfl) (Yi (by omega)))<|xr 1 rfl<|xy rfl (fun a J=>ZO rfl (J.ev rfl) (J.ev rfl) (Yi (by omega)))<|xy rfl (fun a J=>ZO rfl (J.ev rfl) (J.ev rfl) (Yi (by omega)))<|xr 2 rfl<|xne<|xcd 55 rfl (fun _ dcc6=>?_) fun _ dcc6=>?_;refine xct rfl<|xsr ?_;refine yem 9 1 E ?_;clear E;intro w7 b5 E;refine xr 2 rfl<|xne<|xre<|xtr<|xbr<|xtr<|xbr<|xtr<|xb2 results38 rfl rfl ?_;refine .inr ⟨fun l h h2 => ?_, _, rfl, E.o.bel⟩;obtain ⟨q0, q1, q2, q3⟩ := Zgd hto hl1 h h2 (by omega)
 omega
 refine xcf rfl<|xsk<|xet<|xsr<|xr 4 rfl<|xy rfl (vad rfl)<|xy rfl (vad rfl)<|xr 2 rfl<|xy rfl (vad rfl)<|xy rfl (vad rfl)<|xr 1 rfl<|xy rfl (vad rfl)<|xy rfl (fun a J=>ZaZ (i := (p + k) + 1) (j := ((p + k) + 1) + n) rfl (J.ev rfl) (J.ev rfl) (J.ev rfl) (by kernel_rfl) (by omega) (by omega) (by omega) (by omega)) ?_;refine ybs Zu 9 1 [s.extract ((p + k) + 1) (((p + k) + 1) + n)] E ?_;clear E;intro b6 w8 E;refine yap Y3 Zf E 1 (St.rdN E.o Zf 0 rfl) (Zv _) ?_;clear E;intro ao7 cp8 w9 E;refine xr 1 rfl<|xne<|xrl<|xr 2 rfl<|xy rfl (vad rfl)<|xy rfl (vad rfl)<|xr 1 rfl<|xy rfl (vad rfl)<|xr 1 rfl<|xni<|xeb<|xet ?_;have hz : xs.length + ([s.extract ((p + k) + 1) (((p + k) + 1) + n)]).length = (xs ++ ([s.extract ((p + k) + 1) (((p + k) + 1) + n)])).length := (length_append ..).symm;intro a J;rw [hz] at E J;have hto2 := Zl4 hto hl1 (by omega) (by omega) (ZoE (by omega)) (by omega);replace E:=E.pks [1];exact ⟨p + k + 1 + n, ⟨_, _, xs ++ [s.extract ((p + k) + 1) (((p + k) + 1) + n)], ⟨by omega, by rw [length_append, length_cons, length_nil]; omega, hto2, fun _ => by omega⟩, J.less _ ⟨rfl, rfl, rfl, rfl, rfl, trivial⟩, (E.o.erase 1)⟩, (by omega)⟩;refine xcf rfl<|xex<|xtx<|xtx<|xbh<|xet<|xsr<|xr 1 rfl ?_;refine ycB (JV _ _ _ xs _ (by omega) (Zhp hto (by omega)) (St.rdOf E.o Zf 0 rfl)) func30 E ?_;clear E;intro w10 E;refine xr 5 rfl<|xne<|xsq<|xsr<|xr 3 rfl<|xcs 85 rfl (fun cc7=>?_) fun cc7=>?_;refine xr 4 rfl<|xne<|xct rfl<|xsr ?_;refine yem 9 1 E ?_;clear E;intro w11 b9 E;refine xr 2 rfl<|xne<|xre<|xtr<|xb2 results38 rfl rfl ?_;refine .inr ⟨fun l h h2 => ?_, _, rfl, E.o.bel⟩;have hx : Z3 xs = s := ZbS hto (by omega);have e : xs = l := VQ (hx.trans h.is.symm); subst e;have hy := YZ h.many (by rw [hx]; exact h2); rw [hx] at hy; simp [hy] at cc7;refine xr 2 rfl<|xy rfl (fun a J=>Xk rfl (J.ev rfl) (J.ev rfl))<|xr 1 rfl<|xne<|xcs 89 rfl (fun cc8=>?_) fun cc8=>?_;refine xct rfl<|xsr ?_;refine yem 9 1 E ?_;clear E;intro w12 b10 E;refine xr 2 rfl<|xne<|xre<|xtr<|xb2 results38 rfl rfl ?_;refine .inr ⟨fun l h h2 => ?_, _, rfl, E.o.bel⟩;have hx : Z3 xs = s := ZbS hto (by omega);have e : xs = l := VQ (hx.trans h.is.symm); subst e;have hy := YZ h.many (by rw [hx]; exact h2); rw [hx] at hy; simp [hy] at cc8;refine xcf rfl<|xsk<|xet<|xsr<|xr 3 rfl<|xne<|xre<|xb2 results38 rfl rfl ?_;have hf2 : (Ym xs).2 = true := (by simpa using cc7); have hf1 : (Ym xs).1 = s := ZN (by simpa using cc8);obtain ⟨q1, q2⟩ := V3 hf2; rw [q2.1] at hf1; have hq2 := q2.2; rw [hf1] at hq2;exact .inl ⟨xs, ⟨hf1, q1⟩, hq2, _, _, rfl, E.o⟩;refine xr 4 rfl<|xne<|xcf rfl<|xex<|xtx<|xtx<|xbh<|xet<|xsr<|xr 1 rfl ?_;refine ycB (JV _ _ _ xs _ (by omega) (Zhp hto (by omega)) (St.rdOf E.o Zf 0 rfl)) func30 E ?_;clear E;intro w13 E;refine xr 5 rfl<|xne<|xsq<|xsr<|xr 3 rfl<|xcs 85 rfl (fun cc9=>?_) fun cc9=>?_;refine xr 4 rfl<|xne<|xct rfl<|xsr ?_;refine yem 9 1 E ?_;clear E;intro w14 b11 E;refine xr 2 rfl<|xne<|xre<|xtr<|xb2 results38 rfl rfl ?_;refine .inr ⟨fun l h h2 => ?_, _, rfl, E.o.bel⟩;have hx : Z3 xs = s := ZbS hto (by omega);have e : xs = l := VQ (hx.trans h.is.symm); subst e;have hy := YZ h.many (by rw [hx]; exact h2); rw [hx] at hy; simp [hy] at cc9;refine xr 2 rfl<|xy rfl (fun a J=>Xk rfl (J.ev rfl) (J.ev rfl))<|xr 1 rfl<|xne<|xcs 89 rfl (fun cc10=>?_) fun cc10=>?_;refine xct rfl<|xsr ?_;refine yem 9 1 E ?_;clear E;intro w15 b12 E;refine xr 2 rfl<|xne<|xre<|xtr<|xb2 results38 rfl rfl ?_;refine .inr ⟨fun l h h2 => ?_, _, rfl, E.o.bel⟩;have hx : Z3 xs = s := ZbS hto (by omega);have e : xs = l := VQ (hx.trans h.is.symm); subst e;have hy := YZ h.many (by rw [hx]; exact h2); rw [hx] at hy; simp [hy] at cc10;refine xcf rfl<|xsk<|xet<|xsr<|xr 3 rfl<|xne<|xre<|xb2 results38 rfl rfl ?_;have hf2 : (Ym xs).2 = true := (by simpa using cc9); have hf1 : (Ym xs).1 = s := ZN (by simpa using cc10);obtain ⟨q1, q2⟩ := V3 hf2; rw [q2.1] at hf1; have hq2 := q2.2; rw [hf1] at hq2;exact .inl ⟨xs, ⟨hf1, q1⟩, hq2, _, _, rfl, E.o⟩
theorem Zhq (kind : Int) (w0 : World) : Calls prog 46 #[.int .i64 kind] w0 fun e w' => e = .returned (.int .i64 (Yg kind)) ∧ Below w0.heap.size w0 w' := by
 have E := Bx.mk (St.start w0);refine ent func46 ntmps46 ?_;refine xsr<|xr 1 rfl<|xne<|xsq<|xsr<|xr 1 rfl<|xne<|xbl<|xsr<|xr 2 rfl<|xne<|xce 4 rfl (fun _ dcc1=>?_) fun _ dcc1=>?_;refine xct rfl<|xsr<|xr 1 rfl<|xne<|xre<|xbr<|xtr<|xb1 results46 rfl ?_;have he : Yg kind = 12 := by rw [dcc1]; rfl
 exact ⟨by rw [he], E.o.bel⟩;refine xcf rfl<|xsr<|xr 2 rfl<|xne<|xce 6 rfl (fun _ dcc2=>?_) fun _ dcc2=>?_;refine xct rfl<|xsr<|xr 1 rfl<|xne<|xre<|xbr<|xtr<|xb1 results46 rfl ?_;have he : Yg kind = 128 := by rw [dcc2]; rfl
 exact ⟨by rw [he], E.o.bel⟩;refine xcf rfl<|xsk<|xeb<|xet<|xsr<|xr 1 rfl<|xne<|xre<|xb1 results46 rfl ?_;have he : Yg kind = 0 := Za7 dcc1 dcc2;exact ⟨by rw [he], E.o.bel⟩
theorem ZaL (size each : Int) (h0 : 0 ≤ size) (h1 : 1 ≤ each) (hs : size ≤ 1000000) (he : each ≤ 1000000) (w0 : World) : Calls prog 47 #[.int .i64 size, .int .i64 each] w0 fun e w' => e = .returned (.int .i64 ((size + each - (1 : Int)) / each)) ∧ Below w0.heap.size w0 w' := by
 have E := Bx.mk (St.start w0);refine ent func47 ntmps47 ?_;refine xsr<|xr 1 rfl<|xne<|xsr<|xr 2 rfl<|xy rfl (vad rfl)<|xy rfl (fun a J=>ZO rfl (J.ev rfl) (J.ev rfl) (Yi (by omega)))<|xr 1 rfl<|xy rfl (fun a J=>Jc rfl (J.ev rfl) (J.ev rfl) (by omega) (Je (by omega) (by omega) (by omega)))<|xr 1 rfl<|xne<|xre<|xb1 results47 rfl ?_;exact ⟨rfl, E.o.bel⟩
theorem YO (k : Int) : 0 ≤ Yg k ∧ Yg k ≤ 128 := by
 unfold Yg
 split
 ·omega
 ·split <;> omega
theorem Zba (kind size : Int) (w0 : World) : Calls prog 17 #[.int .i64 kind, .int .i64 size] w0 fun e w' => e = .returned (.int .i64 (Z7 kind size)) ∧ Below w0.heap.size w0 w' := by
 have E := Bx.mk (St.start w0);refine ent func17 ntmps17 ?_;refine xsr<|xr 1 rfl<|xne<|xsr<|xr 1 rfl<|xne<|xsq<|xsq ?_;have hel := YO kind;refine xrl<|xr 1 rfl<|xne<|xbl<|xsr<|xr 2 rfl<|xne<|xce 7 rfl (fun _ dcc1=>?_) fun _ dcc1=>?_;refine xct rfl<|xrl<|xr 1 rfl<|xni<|xeb<|xet<|xsq<|xsr<|xr 3 rfl ?_;intro a J;replace J := J.know (k := 13) (c := false) rfl (by decide);revert a;refine xr 2 rfl<|xy rfl (fun a J=>Y8 (r := 192) rfl (J.ev rfl) (J.ev rfl) (by decide)) ?_;refine VJ ((Qq size 0 192 _).mono fun _ _ h => ⟨h.1, h.2 ▸ Below.refl _ _⟩) func18 E ?_;clear E;intro w1 E;refine xr 2 rfl<|xne<|xcs 19 rfl (fun cc2=>?_) fun cc2=>?_;have hin : inB size 0 192 = false := by simpa using cc2
 refine xct rfl<|xsr<|xr 1 rfl<|xne<|xre<|xtr<|xb1 results17 rfl ?_;have he : Yg kind = 12 := by rw [dcc1]; rfl
 have hp : Z7 kind size = -1 := Un (fun h => by rw [he] at h; rw [Vf h.1 (by omega)] at hin; cases hin);exact ⟨by rw [hp], E.o.bel⟩;have hin : inB size 0 192 = true := by simpa using cc2
 have hib := Zs hin;refine xcf rfl<|xsk<|xet<|xsr<|xr 2 rfl<|xy rfl (vad rfl)<|xy rfl (fun a J=>ZO rfl (J.ev rfl) (J.ev rfl) (Yi (by omega)))<|xr 1 rfl<|xy rfl (fun a J=>Jc rfl (J.ev rfl) (J.ev rfl) (by omega) (Je (by omega) (by omega) (by omega)))<|xr 1 rfl<|xne<|xre<|xb1 results17 rfl ?_;have he : Yg kind = 12 := by rw [dcc1]; rfl
 have hp : Z7 kind size = ((size + 12) - 1) / 12 := by rw [J1 (k := kind) (by omega) (by omega) (by omega), he]
 exact ⟨by rw [hp], E.o.bel⟩;refine xcf rfl<|xsr<|xr 2 rfl<|xne<|xce 9 rfl (fun _ dcc3=>?_) fun _ dcc3=>?_;refine xct rfl<|xrl<|xr 1 rfl<|xni<|xeb<|xet<|xsq<|xsr<|xr 3 rfl ?_;intro a J;replace J := J.know (k := 13) (c := false) rfl (by decide);revert a;refine xr 2 rfl<|xy rfl (fun a J=>Y8 (r := 2048) rfl (J.ev rfl) (J.ev rfl) (by decide)) ?_;refine VJ ((Qq size 0 2048 _).mono fun _ _ h => ⟨h.1, h.2 ▸ Below.refl _ _⟩) func18 E ?_;clear E;intro w2 E;refine xr 2 rfl<|xne<|xcs 19 rfl (fun cc4=>?_) fun cc4=>?_;have hin : inB size 0 2048 = false := by simpa using cc4
 refine xct rfl<|xsr<|xr 1 rfl<|xne<|xre<|xtr<|xb1 results17 rfl ?_;have he : Yg kind = 128 := by rw [dcc3]; rfl
 have hp : Z7 kind size = -1 := Un (fun h => by rw [he] at h; rw [Vf h.1 (by omega)] at hin; cases hin);exact ⟨by rw [hp], E.o.bel⟩;have hin : inB size 0 2048 = true := by simpa using cc4
 have hib := Zs hin;refine xcf rfl<|xsk<|xet<|xsr<|xr 2 rfl<|xy rfl (vad rfl)<|xy rfl (fun a J=>ZO rfl (J.ev rfl) (J.ev rfl) (Yi (by omega)))<|xr 1 rfl<|xy rfl (fun a J=>Jc rfl (J.ev rfl) (J.ev rfl) (by omega) (Je (by omega) (by omega) (by omega)))<|xr 1 rfl<|xne<|xre<|xb1 results17 rfl ?_;have he : Yg kind = 128 := by rw [dcc3]; rfl
 have hp : Z7 kind size = ((size + 128) - 1) / 128 := by rw [J1 (k := kind) (by omega) (by omega) (by omega), he]
 exact ⟨by rw [hp], E.o.bel⟩;refine xcf rfl<|xsk<|xeb<|xet<|xsq<|xsr<|xr 3 rfl ?_;intro a J;replace J := J.know (k := 13) (c := true) rfl (by decide);revert a;refine xr 6 rfl<|xne<|xct rfl<|xsr<|xr 1 rfl<|xne<|xre<|xtr<|xb1 results17 rfl ?_;have he : Yg kind = 0 := Za7 dcc1 dcc3;have hp : Z7 kind size = -1 := Za8 (he);exact ⟨by rw [hp], E.o.bel⟩
theorem Zbb (kind size : Int) (w0 : World) : Calls prog 22 #[.int .i64 kind, .int .i64 size] w0 fun e w' => e = .returned (.int .i64 (Z7 kind size)) ∧ Below w0.heap.size w0 w' := by
 have E := Bx.mk (St.start w0);refine ent func22 ntmps22 ?_;refine xsr<|xr 1 rfl<|xne<|xsr<|xr 1 rfl ?_;refine ycB (Zhq kind _) func46 E ?_;clear E;intro w1 E;refine xr 1 rfl<|xne<|xsq<|xsq ?_;have hel := YO kind;refine xrl<|xr 3 rfl<|xce 10 rfl (fun _ dcc1=>?_) fun _ dcc1=>?_;refine xr 6 rfl<|xne<|xct rfl<|xsr<|xr 1 rfl<|xne<|xre<|xtr<|xb1 results22 rfl ?_;have hp : Z7 kind size = -1 := Za8 (by omega);exact ⟨by rw [hp], E.o.bel⟩;refine xr 2 rfl<|xy rfl (fun a J=>Y8 rfl (J.ev rfl) (J.ev rfl) (Yi (by omega))) ?_;refine VJ ((Yb size 0 ((16 : Int) * (Yg kind)) _).mono fun _ _ h => ⟨h.1, h.2 ▸ Below.refl _ _⟩) func25 E ?_;clear E;intro w2 E;refine xr 2 rfl<|xne<|xcs 16 rfl (fun cc2=>?_) fun cc2=>?_;have hin : inB size 0 ((16 : Int) * (Yg kind)) = false := by simpa using cc2
 refine xct rfl<|xsr<|xr 1 rfl<|xne<|xre<|xtr<|xb1 results22 rfl ?_;have hp : Z7 kind size = -1 := Un (fun h => by rw [Vf h.1 (by omega)] at hin; cases hin);exact ⟨by rw [hp], E.o.bel⟩;have hin : inB size 0 ((16 : Int) * (Yg kind)) = true := by simpa using cc2
 have hib := Zs hin;refine xcf rfl<|xsk<|xet<|xsr<|xr 2 rfl ?_;refine ycB (ZaL size (Yg kind) (by omega) (by omega) (by omega) (by omega) _) func47 E ?_;clear E;intro w3 E;refine xr 1 rfl<|xne<|xre<|xb1 results22 rfl ?_;have hp : Z7 kind size = ((size + (Yg kind) - (1 : Int)) / (Yg kind)) := J1 (k := kind) (by omega) (by omega) (by omega);exact ⟨by rw [hp], E.o.bel⟩
theorem V4 (n : Zb) (w0 : World) : Calls prog 7 #[nV n] w0 fun e w' => e = .returned (.bool n.ok) ∧ Below w0.heap.size w0 w' := by
 have E := Bx.mk (St.start w0);refine ent func7 ntmps7 ?_;refine xsr ?_;refine ybx E ?_;clear E;intro w1 b1 E;refine xr 1 rfl<|xne<|xsr<|Xf 0 rfl<|Xl 0 E rfl rfl<|Xf 2 rfl<|Xl 0 E rfl rfl ?_;refine ycB (Zba n.aj n.am _) func17 E ?_;clear E;intro w2 E;refine xr 1 rfl<|xne<|xsr<|xr 1 rfl<|xne<|xsq<|xsr<|Xf 0 rfl<|Xl 0 E rfl rfl<|xr 1 rfl<|xne<|xce 12 rfl (fun _ dcc1=>?_) fun _ dcc1=>?_;refine xct rfl<|xrl<|xr 1 rfl<|xne<|xsq ?_;intro a J;refine Yf (by kernel_rfl) (by kernel_rfl) E.o ?_;revert a;refine xqr 3 rfl<|xcd 15 rfl (fun _ dcc2=>?_) fun _ dcc2=>?_
 refine Qf 1 rfl<|Ql 0 rfl rfl<|xqr 1 rfl ?_;refine yqg (fun _ E => ((Qq n.ax 1 1 _).mono fun _ _ h => ⟨h.1, h.2 ▸ Below.refl _ _⟩)) func18 ?_;refine xqr 2 rfl<|xcs 21 rfl (fun cc3=>?_) fun cc3=>?_;refine Qf 3 rfl<|Qf 6 rfl<|Ql 0 rfl rfl<|xqr 4 rfl<|xce 28 rfl (fun _ dcc4=>?_) fun _ dcc4=>?_;refine Qf 3 rfl<|Qf 5 rfl<|Ql 0 rfl rfl<|xqr 1 rfl ?_;refine yqg (fun _ E => Zc5 (Z7 n.aj n.am) _) func19 ?_;refine xqr 3 rfl<|xce 36 rfl (fun _ dcc5=>?_) fun _ dcc5=>?_;refine Qf 3 rfl<|Qf 0 rfl<|Qw 0 5 rfl rfl ?_;refine yqg (fun _ E => Uz n.ah.af _) func20 ?_;refine xqr 2 rfl<|xcs 42 rfl (fun cc6=>?_) fun cc6=>?_;refine Qf 3 rfl<|Qf 0 rfl<|Qw 0 5 rfl rfl ?_;refine yqg (fun _ E => Jv n.ah.af _) func21 ?_;refine xqr 1 rfl<|xcs 47 rfl (fun cc7=>?_) fun cc7=>?_;refine xqr 11 rfl ?_;intro a J;refine wpQuiet_nil ?_; intro w3 E; replace E := Bx.mk E;revert a;refine xet<|xre<|xb1 results7 rfl ?_;have hok : n.ok = true := Zb.ok_yes ⟨by omega, by have h := Zs (by simpa using cc3); rw [if_pos dcc1]; exact h, by simpa using dcc4, by simpa using dcc5, by simpa using cc6, .inl (by simpa using cc7)⟩;exact ⟨by rw [hok], E.o.bel⟩;refine Qf 3 rfl<|Qf 0 rfl<|Qf 4 rfl<|Ql 0 rfl rfl<|Qf 3 rfl<|Qf 5 rfl<|Ql 0 rfl rfl<|xqr 4 rfl ?_;intro a J;refine wpQuiet_nil ?_; intro w4 E; replace E := Bx.mk E;revert a;refine xet<|xre<|xb1 results7 rfl ?_
 cases hlast : (n.ah.af.aq == n.ah.aw) with
 | true =>
   have hok : n.ok = true := Zb.ok_yes ⟨by omega, by have h := Zs (by simpa using cc3); rw [if_pos dcc1]; exact h, by simpa using dcc4, by simpa using dcc5, by simpa using cc6, .inr (eq_of_beq hlast)⟩;exact ⟨by rw [hok] <;> rfl, E.o.bel⟩
 | false =>
   have hok : n.ok = false := Zb.ok_no fun h => by
     rcases h.level with h | h
     · rw [h] at cc7; simp at cc7
     · rw [h] at hlast; simp at hlast
   exact ⟨by rw [hok] <;> rfl, E.o.bel⟩
 refine xqr 16 rfl ?_;intro a J;refine wpQuiet_nil ?_; intro w5 E; replace E := Bx.mk E;revert a;refine xet<|xre<|xb1 results7 rfl ?_;have hok : n.ok = false := Zb.ok_no fun h => by
   rw [h.root] at cc6; simp at cc6
 exact ⟨by rw [hok], E.o.bel⟩;refine xqr 22 rfl ?_;intro a J;refine wpQuiet_nil ?_; intro w6 E; replace E := Bx.mk E;revert a;refine xet<|xre<|xb1 results7 rfl ?_;have hok : n.ok = false := Zb.ok_no fun h => by
   exact dcc5 h.depth
 exact ⟨by rw [hok], E.o.bel⟩;refine xqr 30 rfl ?_;intro a J;refine wpQuiet_nil ?_; intro w7 E; replace E := Bx.mk E;revert a;refine xet<|xre<|xb1 results7 rfl ?_;have hok : n.ok = false := Zb.ok_no fun h => by
   exact dcc4 h.tmany
 exact ⟨by rw [hok], E.o.bel⟩;refine xqr 37 rfl ?_;intro a J;refine wpQuiet_nil ?_; intro w8 E; replace E := Bx.mk E;revert a;refine xet<|xre<|xb1 results7 rfl ?_;have hok : n.ok = false := Zb.ok_no fun h => by
   have h1 := h.links; rw [if_pos dcc1] at h1; rw [Vf h1.1 h1.2] at cc3; simp at cc3
 exact ⟨by rw [hok], E.o.bel⟩;refine xqr 43 rfl ?_;intro a J;refine wpQuiet_nil ?_; intro w9 E; replace E := Bx.mk E;revert a;refine xet<|xre<|xb1 results7 rfl ?_;have hok : n.ok = false := Zb.ok_no fun h => by
   have := h.many; omega
 exact ⟨by rw [hok], E.o.bel⟩;refine xcf rfl<|xsk<|xet<|xsq ?_;intro a J;refine Yf (by kernel_rfl) (by kernel_rfl) E.o ?_;revert a;refine xqr 3 rfl<|xcd 15 rfl (fun _ dcc8=>?_) fun _ dcc8=>?_
 refine Qf 1 rfl<|Ql 0 rfl rfl<|xqr 1 rfl ?_;refine yqg (fun _ E => ((Qq n.ax 1 9 _).mono fun _ _ h => ⟨h.1, h.2 ▸ Below.refl _ _⟩)) func18 ?_;refine xqr 2 rfl<|xcs 21 rfl (fun cc9=>?_) fun cc9=>?_;refine Qf 3 rfl<|Qf 6 rfl<|Ql 0 rfl rfl<|xqr 4 rfl<|xce 28 rfl (fun _ dcc10=>?_) fun _ dcc10=>?_;refine Qf 3 rfl<|Qf 5 rfl<|Ql 0 rfl rfl<|xqr 1 rfl ?_;refine yqg (fun _ E => Zc5 (Z7 n.aj n.am) _) func19 ?_;refine xqr 3 rfl<|xce 36 rfl (fun _ dcc11=>?_) fun _ dcc11=>?_;refine Qf 3 rfl<|Qf 0 rfl<|Qw 0 5 rfl rfl ?_;refine yqg (fun _ E => Uz n.ah.af _) func20 ?_;refine xqr 2 rfl<|xcs 42 rfl (fun cc12=>?_) fun cc12=>?_;refine Qf 3 rfl<|Qf 0 rfl<|Qw 0 5 rfl rfl ?_;refine yqg (fun _ E => Jv n.ah.af _) func21 ?_;refine xqr 1 rfl<|xcs 47 rfl (fun cc13=>?_) fun cc13=>?_;refine xqr 11 rfl ?_;intro a J;refine wpQuiet_nil ?_; intro w10 E; replace E := Bx.mk E;revert a;refine xet<|xre<|xb1 results7 rfl ?_;have hok : n.ok = true := Zb.ok_yes ⟨by omega, by have h := Zs (by simpa using cc9); rw [if_neg dcc1]; exact h, by simpa using dcc10, by simpa using dcc11, by simpa using cc12, .inl (by simpa using cc13)⟩;exact ⟨by rw [hok], E.o.bel⟩;refine Qf 3 rfl<|Qf 0 rfl<|Qf 4 rfl<|Ql 0 rfl rfl<|Qf 3 rfl<|Qf 5 rfl<|Ql 0 rfl rfl<|xqr 4 rfl ?_;intro a J;refine wpQuiet_nil ?_; intro w11 E; replace E := Bx.mk E;revert a;refine xet<|xre<|xb1 results7 rfl ?_
 cases hlast : (n.ah.af.aq == n.ah.aw) with
 | true =>
   have hok : n.ok = true := Zb.ok_yes ⟨by omega, by have h := Zs (by simpa using cc9); rw [if_neg dcc1]; exact h, by simpa using dcc10, by simpa using dcc11, by simpa using cc12, .inr (eq_of_beq hlast)⟩;exact ⟨by rw [hok] <;> rfl, E.o.bel⟩
 | false =>
   have hok : n.ok = false := Zb.ok_no fun h => by
     rcases h.level with h | h
     · rw [h] at cc13; simp at cc13
     · rw [h] at hlast; simp at hlast
   exact ⟨by rw [hok] <;> rfl, E.o.bel⟩
 refine xqr 16 rfl ?_;intro a J;refine wpQuiet_nil ?_; intro w12 E; replace E := Bx.mk E;revert a;refine xet<|xre<|xb1 results7 rfl ?_;have hok : n.ok = false := Zb.ok_no fun h => by
   rw [h.root] at cc12; simp at cc12
 exact ⟨by rw [hok], E.o.bel⟩;refine xqr 22 rfl ?_;intro a J;refine wpQuiet_nil ?_; intro w13 E; replace E := Bx.mk E;revert a;refine xet<|xre<|xb1 results7 rfl ?_;have hok : n.ok = false := Zb.ok_no fun h => by
   exact dcc11 h.depth
 exact ⟨by rw [hok], E.o.bel⟩;refine xqr 30 rfl ?_;intro a J;refine wpQuiet_nil ?_; intro w14 E; replace E := Bx.mk E;revert a;refine xet<|xre<|xb1 results7 rfl ?_;have hok : n.ok = false := Zb.ok_no fun h => by
   exact dcc10 h.tmany
 exact ⟨by rw [hok], E.o.bel⟩;refine xqr 37 rfl ?_;intro a J;refine wpQuiet_nil ?_; intro w15 E; replace E := Bx.mk E;revert a;refine xet<|xre<|xb1 results7 rfl ?_;have hok : n.ok = false := Zb.ok_no fun h => by
   have h1 := h.links; rw [if_neg dcc1] at h1; rw [Vf h1.1 h1.2] at cc9; simp at cc9
 exact ⟨by rw [hok], E.o.bel⟩;refine xqr 43 rfl ?_;intro a J;refine wpQuiet_nil ?_; intro w16 E; replace E := Bx.mk E;revert a;refine xet<|xre<|xb1 results7 rfl ?_;have hok : n.ok = false := Zb.ok_no fun h => by
   have := h.many; omega
 exact ⟨by rw [hok], E.o.bel⟩
theorem J4 (n : Zb) (w0 : World) : Calls prog 8 #[nV n] w0 fun e w' => e = .returned (.bool n.ok) ∧ Below w0.heap.size w0 w' := by
 have E := Bx.mk (St.start w0);refine ent func8 ntmps8 ?_;refine xsr ?_;refine ybx E ?_;clear E;intro w1 b1 E;refine xr 1 rfl<|xne<|xsr<|Xf 0 rfl<|Xl 0 E rfl rfl<|Xf 2 rfl<|Xl 0 E rfl rfl ?_;refine ycB (Zbb n.aj n.am _) func22 E ?_;clear E;intro w2 E;refine xr 1 rfl<|xne<|xsq<|xsq ?_;intro a J;refine Yf (by kernel_rfl) (by kernel_rfl) E.o ?_;revert a;refine xqr 3 rfl<|xcd 12 rfl (fun _ dcc1=>?_) fun _ dcc1=>?_
 refine xqr 21 rfl ?_;intro a J;refine wpQuiet_nil ?_; intro w3 E; replace E := Bx.mk E;revert a;refine xet<|xct rfl<|xsr<|xr 1 rfl<|xne<|xre<|xtr<|xb1 results8 rfl ?_;have hok : n.ok = false := Zb.ok_no fun h => by
   have := h.many; omega
 exact ⟨by rw [hok], E.o.bel⟩;refine Qf 3 rfl<|Qf 6 rfl<|Ql 0 rfl rfl<|xqr 4 rfl<|xcn 19 rfl (fun _ dcc2=>?_) fun _ dcc2=>?_;refine xqr 14 rfl ?_;intro a J;refine wpQuiet_nil ?_; intro w4 E; replace E := Bx.mk E;revert a;refine xet<|xct rfl<|xsr<|xr 1 rfl<|xne<|xre<|xtr<|xb1 results8 rfl ?_;have hok : n.ok = false := Zb.ok_no fun h => by
   exact dcc2 h.tmany
 exact ⟨by rw [hok], E.o.bel⟩;refine Qf 3 rfl<|Qf 5 rfl<|Ql 0 rfl rfl<|xqr 1 rfl ?_;refine yqg (fun _ E => V1 (Z7 n.aj n.am) _) func23 ?_;refine xqr 3 rfl<|xcn 27 rfl (fun _ dcc3=>?_) fun _ dcc3=>?_;refine xqr 6 rfl ?_;intro a J;refine wpQuiet_nil ?_; intro w5 E; replace E := Bx.mk E;revert a;refine xet<|xct rfl<|xsr<|xr 1 rfl<|xne<|xre<|xtr<|xb1 results8 rfl ?_;have hok : n.ok = false := Zb.ok_no fun h => by
   exact dcc3 h.depth
 exact ⟨by rw [hok], E.o.bel⟩;refine Qf 3 rfl<|Qf 0 rfl<|Qw 0 5 rfl rfl ?_;refine yqg (fun _ E => ZR n.ah.af _) func24 ?_;refine xqr 2 rfl ?_;intro a J;refine wpQuiet_nil ?_; intro w6 E; replace E := Bx.mk E;revert a;refine xet<|xcs 33 rfl (fun cc4=>?_) fun cc4=>?_
 refine xct rfl<|xsr<|xr 1 rfl<|xne<|xre<|xtr<|xb1 results8 rfl ?_;have hok : n.ok = false := Zb.ok_no fun h => by
   rw [h.root] at cc4; simp at cc4
 exact ⟨by rw [hok], E.o.bel⟩;refine xcf rfl<|xsk<|xet<|xsr<|xr 1 rfl<|xne<|xsq<|xsr<|Xf 0 rfl<|Xl 0 E rfl rfl<|xr 1 rfl<|xne<|xce 36 rfl (fun _ dcc5=>?_) fun _ dcc5=>?_;refine xct rfl<|xrl<|xr 1 rfl<|xne<|xsr<|Xf 1 rfl<|Xl 0 E rfl rfl<|xr 1 rfl ?_;refine ycB ((Yb n.ax 1 1 _).mono fun _ _ h => ⟨h.1, h.2 ▸ Below.refl _ _⟩) func25 E ?_;clear E;intro w7 E;refine xr 1 rfl<|xcs 41 rfl (fun cc6=>?_) fun cc6=>?_;refine Xf 3 rfl<|Xf 0 rfl<|Xw 0 5 E rfl rfl ?_;refine VJ (ZA n.ah.af _) func26 E ?_;clear E;intro w8 E;refine xr 1 rfl<|xcs 46 rfl (fun cc7=>?_) fun cc7=>?_;refine xr 11 rfl<|xne<|xre<|xb1 results8 rfl ?_;have hok : n.ok = true := Zb.ok_yes ⟨by omega, by have h := Zs (by simpa using cc6); rw [if_pos dcc5]; exact h, by simpa using dcc2, by simpa using dcc3, by simpa using cc4, .inl (by simpa using cc7)⟩;exact ⟨by rw [hok], E.o.bel⟩;refine Xf 3 rfl<|Xf 0 rfl<|Xf 4 rfl<|Xl 0 E rfl rfl<|Xf 3 rfl<|Xf 5 rfl<|Xl 0 E rfl rfl<|xr 4 rfl<|xne<|xre<|xb1 results8 rfl ?_
 cases hlast : (n.ah.af.aq == n.ah.aw) with
 | true =>
   have hok : n.ok = true := Zb.ok_yes ⟨by omega, by have h := Zs (by simpa using cc6); rw [if_pos dcc5]; exact h, by simpa using dcc2, by simpa using dcc3, by simpa using cc4, .inr (eq_of_beq hlast)⟩;exact ⟨by rw [hok] <;> rfl, E.o.bel⟩
 | false =>
   have hok : n.ok = false := Zb.ok_no fun h => by
     rcases h.level with h | h
     · rw [h] at cc7; simp at cc7
     · rw [h] at hlast; simp at hlast
   exact ⟨by rw [hok] <;> rfl, E.o.bel⟩
 refine xr 16 rfl<|xne<|xre<|xb1 results8 rfl ?_;have hok : n.ok = false := Zb.ok_no fun h => by
   have h1 := h.links; rw [if_pos dcc5] at h1; rw [Vf h1.1 h1.2] at cc6; simp at cc6
 exact ⟨by rw [hok], E.o.bel⟩;refine xcf rfl<|xsk<|xet<|xsr<|Xf 1 rfl<|Xl 0 E rfl rfl<|xr 1 rfl ?_;refine ycB ((Yb n.ax 1 9 _).mono fun _ _ h => ⟨h.1, h.2 ▸ Below.refl _ _⟩) func25 E ?_;clear E;intro w9 E;refine xr 1 rfl<|xcs 41 rfl (fun cc8=>?_) fun cc8=>?_;refine Xf 3 rfl<|Xf 0 rfl<|Xw 0 5 E rfl rfl ?_;refine VJ (ZA n.ah.af _) func26 E ?_;clear E;intro w10 E;refine xr 1 rfl<|xcs 46 rfl (fun cc9=>?_) fun cc9=>?_;refine xr 11 rfl<|xne<|xre<|xb1 results8 rfl ?_;have hok : n.ok = true := Zb.ok_yes ⟨by omega, by have h := Zs (by simpa using cc8); rw [if_neg dcc5]; exact h, by simpa using dcc2, by simpa using dcc3, by simpa using cc4, .inl (by simpa using cc9)⟩;exact ⟨by rw [hok], E.o.bel⟩;refine Xf 3 rfl<|Xf 0 rfl<|Xf 4 rfl<|Xl 0 E rfl rfl<|Xf 3 rfl<|Xf 5 rfl<|Xl 0 E rfl rfl<|xr 4 rfl<|xne<|xre<|xb1 results8 rfl ?_
 cases hlast : (n.ah.af.aq == n.ah.aw) with
 | true =>
   have hok : n.ok = true := Zb.ok_yes ⟨by omega, by have h := Zs (by simpa using cc8); rw [if_neg dcc5]; exact h, by simpa using dcc2, by simpa using dcc3, by simpa using cc4, .inr (eq_of_beq hlast)⟩;exact ⟨by rw [hok] <;> rfl, E.o.bel⟩
 | false =>
   have hok : n.ok = false := Zb.ok_no fun h => by
     rcases h.level with h | h
     · rw [h] at cc9; simp at cc9
     · rw [h] at hlast; simp at hlast
   exact ⟨by rw [hok] <;> rfl, E.o.bel⟩
 refine xr 16 rfl<|xne<|xre<|xb1 results8 rfl ?_;have hok : n.ok = false := Zb.ok_no fun h => by
   have h1 := h.links; rw [if_neg dcc5] at h1; rw [Vf h1.1 h1.2] at cc8; simp at cc8
 exact ⟨by rw [hok], E.o.bel⟩
theorem Box.putAt {w : World} {b n : Nat} {t : TypeId} {cs : List Value} (h : Box w b n t (.agg cs.toArray)) (k : Nat) (ds : List Value) (hk : k + ds.length ≤ cs.length) (g1 : ∀ u ∈ ds, u.oneCell' = true) :
  w.there b k ds.length ∧ Box (w.setCells b k ds) b n t (.agg (XN cs k ds).toArray) ∧ Y5 b (b + 1) w (w.setCells b k ds) := by
 obtain ⟨cs', e, hl, h1, hh⟩ := h;obtain rfl : cs = cs' := by simpa using e
 obtain ⟨k1, k2, k3⟩ := Va ds k w cs hh hk;refine ⟨fun j hj => ⟨by rw [Zm hh]; simp; omega, ZaQ hh _⟩, ⟨_, rfl, ?_, ?_, k1⟩, k2⟩
 ·unfold XN; simp; omega
 ·intro u hu
  unfold XN at hu;rcases mem_append.1 hu with hu | hu
  ·rcases mem_append.1 hu with hu | hu
   ·exact h1 u (List.mem_of_mem_take hu)
   ·exact g1 u hu
  ·exact h1 u (List.mem_of_mem_drop hu)
section
variable {P : Program} {ops : Array Oper} {Q : Exit → Act → World → Prop} {rest : List Oper} {o : Oper} {a : Act} {W w : World} {s : List Asr}
theorem ZZ (hg : o.guard = none) {t : TypeId} {x y : Operand} (ho : o.op = .store t x y) (hd : o.dst = none) {b n k : Nat} {T : TypeId} {cs ds rs : List Value} (hx : a.eval x = .pointer (some ⟨b, k, none⟩)) (hy : a.eval y = .agg ds.toArray) (hS : St W s w) (i : Nat) (hi : s[i]? = some (boxA b n T (.agg cs.toArray))) (hk : Nat.ble (k + ds.length) cs.length = true) (hv : (ds.all fun u => u.oneCell') = true) (hn : XW P t ds.length = true) (hr : XN cs k ds = rs)
  (h : ∀ w', St W (s.set i (boxA b n T (.agg rs.toArray))) w' → wpList P ops Q rest a w') : wpList P ops Q (o :: rest) a w := by
 obtain ⟨k1, k2, k3⟩ := (hS.box i hi).putAt k ds (Nat.le_of_ble_eq_true hk) (List.all_eq_true.1 hv);refine wpList_plain hg fun K hK => wp_store_mid t x y ho b k ds.toArray hx hy (by simpa using k1) (by rw [(Qr hn).2]; simp) (by simpa using hv) ?_;rw [hd];exact hK _ _ (h _ (by rw [← hr]; exact hS.putBox i hi k2 k3))
end
theorem UO (n : Zb) : szs (Xs n) := Yz (Nat.le_trans (Yr _) (by decide)) (Yz (Nat.le_trans (Yr _) (by decide)) (Yz (Nat.le_trans (Yr _) (by decide)) (Yz (Nat.le_trans (ZbK _) (by decide)) (Yz (Nat.le_trans (Yr _) (by decide)) (Yz (Nat.le_trans (Yr _) (by decide)) (Yz (by decide) Ul))))))
theorem UP (n : Zb) : (Xs n).length = 7 := rfl
theorem Vx (n : Zb) (w0 : World) (hT : UG w0) : Calls prog 9 #[nV n] w0 fun e w' => e = .returned (.string (ZY n)) ∧ Below w0.heap.size w0 w' := by
 have HT := Bx.mk hT; clear hT;have E := Bx.mk (St.start w0);refine ent func9 ntmps9 ?_;refine xsr ?_;refine ybx E ?_;clear E;intro w1 b1 E;refine xr 1 rfl<|xne<|xsq<|xsr<|Xw 0 10 E rfl rfl ?_;refine ycB (V4 n _) func7 E ?_;clear E;intro w2 E;refine xr 1 rfl<|xne<|xcs 7 rfl (fun cc1=>?_) fun cc1=>?_;refine xct rfl<|xsr<|xr 1 rfl<|xne<|xre<|xtr<|xb1 results9 rfl ?_;exact ⟨by rw [QU (by simpa using cc1)]; rfl, E.o.bel⟩;refine xcf rfl<|xsk<|xet<|xsq ?_;intro a J;refine ZX (R := fun a w => ∃ (b7 : Nat) (ao4 : Option Addr) (cp4 : Nat) (ao8 : Option Addr) (cp9 : Nat) (b2 : Nat), Fr 27 a [(0, nV n), (1, .pointer (some ⟨b1, 0, none⟩)), (2, .string (⟨#[]⟩ : ByteArray)), (5, nV n), (6, .bool n.ok), (7, .bool false), (3, .string ((Ym (Xs n)).1))] ∧ St w0 ([Zg Zu 1 9 (.slice (some ⟨b7, 0, none⟩) 1 1) ([(⟨#[101, 110, 100]⟩ : ByteArray)]), Zg Zu 1 9 (.slice ao4 3 cp4) (JX n.ah), Zg Zu 1 9 (.slice ao8 (((([n.aj, n.ax, n.am]).map ZI) ++ (JX n.ah)).length + ([(⟨#[101, 110, 100]⟩ : ByteArray)]).length) cp9) (((([n.aj, n.ax, n.am]).map ZI) ++ (JX n.ah)) ++ ([(⟨#[101, 110, 100]⟩ : ByteArray)])), Zg ZG 1 3 (.slice (some ⟨b2, 0, none⟩) 3 3) ([n.aj, n.ax, n.am]), boxA b1 10 28 (nV n)]) w) ?_ ?_;have hok : n.ok = true := by simpa using cc1
 have hsm := (Zb.ok_is hok).small; have k1 := hsm.links; have k2 := hsm.size; have k3 := hsm.many; have k4 := hsm.depth; have k5 := hsm.kind; have hel := YO n.aj;revert a;refine hld [] E ?_;clear E;intro w3 E M;refine Hf 0 0 E rfl<|Hl 1 0 E rfl rfl<|Hf 2 1 E rfl<|Hl 3 0 E rfl rfl<|Hf 4 2 E rfl<|Hl 5 0 E rfl rfl<|Hf 8 3 E rfl<|Hw 9 0 7 E rfl rfl ?_;refine UE 6 12 ?_ ?_;intro a J;refine ZK (enc := ZG) (e := 3) (size := 1) rfl rfl J rfl rfl rfl (ps := [(0, .int .i64 n.aj), (1, .int .i64 n.ax), (2, .int .i64 n.am)]) rfl (cells := [.int .i64 n.aj, .int .i64 n.ax, .int .i64 n.am]) (by kernel_rfl) [n.aj, n.ax, n.am] rfl rfl (by unfold maxLen; omega) rfl M.o E.o ?_; clear J E M a; intro b2 a w5 J M E; replace E := Bx.mk E; replace M := Bx.mk M; refine ⟨E.o, ?_⟩;revert a;refine UE 7 12 ?_ ?_;refine yo (XA _ _ _ ([n.aj, n.ax, n.am]) _ (HT.o.below M.o.bel) (by simp) (St.rdN M.o Zp 0 rfl)) func28 ?_;rintro _ w7 ⟨ao3, cp3, rfl, hs⟩;refine ⟨_, rfl, ?_⟩;replace E := Bx.mk (E.o.later hs.bel); replace M := M.ad hs;clear hs;intro a J;replace M:=M.nm;refine ⟨E.o, ?_⟩;revert a;refine UE 10 12 ?_ ?_;refine yo (QQ n.ah _ (HT.o.below M.o.bel)) func29 ?_;rintro _ w9 ⟨ao4, cp4, rfl, hs⟩;refine ⟨_, rfl, ?_⟩;replace E := Bx.mk (E.o.later hs.bel); replace M := M.ad hs;clear hs;intro a J;replace M:=M.nm;refine ⟨E.o, ?_⟩;revert a;refine UE 11 12 ?_ ?_;intro a J;refine Yq rfl rfl J rfl rfl rfl (J.ev rfl) (J.ev rfl) Y3 Zf M.o 1 (xs := ([n.aj, n.ax, n.am]).map ZI) rfl (ys := JX n.ah) (St.rdN M.o Zf 0 rfl) (Zv _) (by unfold maxLen; (try simp only [length_append, length_cons, length_nil, nil_append, length_map, Z9, length_map]); omega) (by (try simp only [length_append, length_cons, length_nil, nil_append, length_map, Z9, length_map]); omega) ?_; clear J E M a; intro ao5 cp6 w11 a J M; replace M := Bx.mk M;replace M:=M.nm;have E:=M.ers [2,1,0];refine ⟨E.o, ?_⟩;revert a;refine Zk 12 ?_;intro a J;refine ZK (enc := Zu) (e := 9) (size := 1) rfl rfl J rfl rfl rfl (ps := [(0, .string (⟨#[101, 110, 100]⟩ : ByteArray))]) rfl (cells := [.string (⟨#[101, 110, 100]⟩ : ByteArray)]) (by kernel_rfl) [(⟨#[101, 110, 100]⟩ : ByteArray)] rfl rfl (by unfold maxLen; omega) rfl M.o E.o ?_; clear J E M a; intro b7 a w13 J M E; replace E := Bx.mk E; replace M := Bx.mk M; refine ⟨E.o, ?_⟩;revert a;refine Zk 13 ?_;intro a J;refine Yq rfl rfl J rfl rfl rfl (J.ev rfl) (J.ev rfl) Y3 Zf M.o 2 (xs := (([n.aj, n.ax, n.am]).map ZI) ++ (JX n.ah)) rfl (ys := [(⟨#[101, 110, 100]⟩ : ByteArray)]) (St.rdN M.o Zf 0 rfl) (Zv _) (by unfold maxLen; (try simp only [length_append, length_cons, length_nil, nil_append, length_map, Z9, length_map]); omega) (by (try simp only [length_append, length_cons, length_nil, nil_append, length_map, Z9, length_map]); omega) ?_; clear J E M a; intro ao8 cp9 w15 a J M; replace M := Bx.mk M;replace M:=M.nm;have E:=M.ers [3,2,1,0];refine ⟨E.o, ?_⟩;revert a;refine Zk 14 ?_;refine yoB (X0 _ _ _ (Xs n) _ (HT.o.below M.o.bel) (by rw [UP]; omega) (UO n) (St.rdN M.o Zf 2 rfl)) func27 ?_;intro w16 hb; replace E := Bx.mk (E.o.later hb); replace M := Bx.mk (M.o.later hb);clear hb; refine onb E.o ?_;refine Hp 15 E rfl<|Hp 16 E rfl<|Hp 17 E rfl<|Hp 18 E rfl<|Hp 19 E rfl ?_;refine hdn ?_;replace E := M; clear M;intro a J;exact ZD ⟨_, _, _, _, _, _, J.ls _, E.o⟩;intro a J;refine ZK (enc := Zu) (e := 9) (size := 1) rfl rfl J rfl rfl rfl (ps := [(0, .string (⟨#[101, 110, 100]⟩ : ByteArray))]) rfl (cells := [.string (⟨#[101, 110, 100]⟩ : ByteArray)]) (by kernel_rfl) [(⟨#[101, 110, 100]⟩ : ByteArray)] rfl rfl (by unfold maxLen; omega) rfl M.o E.o ?_; clear J E M a; intro b10 a w18 J M E; replace E := Bx.mk E; replace M := Bx.mk M; refine ⟨E.o, ?_⟩;revert a;refine Zk 11 ?_;intro a J;refine Yq rfl rfl J rfl rfl rfl (J.ev rfl) (J.ev rfl) Y3 Zf M.o 2 (xs := ([n.aj, n.ax, n.am]).map ZI) rfl (ys := JX n.ah) (St.rdN M.o Zf 1 rfl) (Zv _) (by unfold maxLen; (try simp only [length_append, length_cons, length_nil, nil_append, length_map, Z9, length_map]); omega) (by (try simp only [length_append, length_cons, length_nil, nil_append, length_map, Z9, length_map]); omega) ?_; clear J E M a; intro ao11 cp12 w20 a J M; replace M := Bx.mk M;replace M:=M.nm;have E:=M.ers [3,2,1,0];refine ⟨E.o, ?_⟩;revert a;refine Zk 13 ?_;intro a J;refine Yq rfl rfl J rfl rfl rfl (J.ev rfl) (J.ev rfl) Y3 Zf M.o 2 (xs := (([n.aj, n.ax, n.am]).map ZI) ++ (JX n.ah)) rfl (ys := [(⟨#[101, 110, 100]⟩ : ByteArray)]) (St.rdN M.o Zf 0 rfl) (Zv _) (by unfold maxLen; (try simp only [length_append, length_cons, length_nil, nil_append, length_map, Z9, length_map]); omega) (by (try simp only [length_append, length_cons, length_nil, nil_append, length_map, Z9, length_map]); omega) ?_; clear J E M a; intro ao13 cp14 w22 a J M; replace M := Bx.mk M;replace M:=M.nm;have E:=M.ers [3,2,1,0];refine ⟨E.o, ?_⟩;revert a;refine Zk 14 ?_;refine yoB (X0 _ _ _ (Xs n) _ (HT.o.below M.o.bel) (by rw [UP]; omega) (UO n) (St.rdN M.o Zf 2 rfl)) func27 ?_;intro w23 hb; replace E := Bx.mk (E.o.later hb); replace M := Bx.mk (M.o.later hb);clear hb; refine onb E.o ?_;refine Hp 15 E rfl<|Hp 16 E rfl<|Hp 17 E rfl<|Hp 18 E rfl<|Hp 19 E rfl ?_;refine hdn ?_;replace E := M; clear M;intro a J;exact ZD ⟨_, _, _, _, _, _, J.ls _, E.o⟩;intro a J;refine ZK (enc := Zu) (e := 9) (size := 1) rfl rfl J rfl rfl rfl (ps := [(0, .string (⟨#[101, 110, 100]⟩ : ByteArray))]) rfl (cells := [.string (⟨#[101, 110, 100]⟩ : ByteArray)]) (by kernel_rfl) [(⟨#[101, 110, 100]⟩ : ByteArray)] rfl rfl (by unfold maxLen; omega) rfl M.o E.o ?_; clear J E M a; intro b15 a w25 J M E; replace E := Bx.mk E; replace M := Bx.mk M; refine ⟨E.o, ?_⟩;revert a;refine Zk 10 ?_;refine yo (QQ n.ah _ (HT.o.below M.o.bel)) func29 ?_;rintro _ w27 ⟨ao16, cp16, rfl, hs⟩;refine ⟨_, rfl, ?_⟩;replace E := Bx.mk (E.o.later hs.bel); replace M := M.ad hs;clear hs;intro a J;replace M:=M.nm;refine ⟨E.o, ?_⟩;revert a;refine Zk 11 ?_;intro a J;refine Yq rfl rfl J rfl rfl rfl (J.ev rfl) (J.ev rfl) Y3 Zf M.o 2 (xs := ([n.aj, n.ax, n.am]).map ZI) rfl (ys := JX n.ah) (St.rdN M.o Zf 0 rfl) (Zv _) (by unfold maxLen; (try simp only [length_append, length_cons, length_nil, nil_append, length_map, Z9, length_map]); omega) (by (try simp only [length_append, length_cons, length_nil, nil_append, length_map, Z9, length_map]); omega) ?_; clear J E M a; intro ao17 cp18 w29 a J M; replace M := Bx.mk M;replace M:=M.nm;have E:=M.ers [3,2,1,0];refine ⟨E.o, ?_⟩;revert a;refine Zk 13 ?_;intro a J;refine Yq rfl rfl J rfl rfl rfl (J.ev rfl) (J.ev rfl) Y3 Zf M.o 2 (xs := (([n.aj, n.ax, n.am]).map ZI) ++ (JX n.ah)) rfl (ys := [(⟨#[101, 110, 100]⟩ : ByteArray)]) (St.rdN M.o Zf 1 rfl) (Zv _) (by unfold maxLen; (try simp only [length_append, length_cons, length_nil, nil_append, length_map, Z9, length_map]); omega) (by (try simp only [length_append, length_cons, length_nil, nil_append, length_map, Z9, length_map]); omega) ?_; clear J E M a; intro ao19 cp20 w31 a J M; replace M := Bx.mk M;replace M:=M.nm;have E:=M.ers [3,2,1,0];refine ⟨E.o, ?_⟩;revert a;refine Zk 14 ?_;refine yoB (X0 _ _ _ (Xs n) _ (HT.o.below M.o.bel) (by rw [UP]; omega) (UO n) (St.rdN M.o Zf 2 rfl)) func27 ?_;intro w32 hb; replace E := Bx.mk (E.o.later hb); replace M := Bx.mk (M.o.later hb);clear hb; refine onb E.o ?_;refine Hp 15 E rfl<|Hp 16 E rfl<|Hp 17 E rfl<|Hp 18 E rfl<|Hp 19 E rfl ?_;refine hdn ?_;replace E := M; clear M;replace E:=E.pks [4,4,4,3,4];intro a J;exact ZD ⟨_, _, _, _, _, _, J.ls _, E.o⟩;intro a J;refine ZK (enc := Zu) (e := 9) (size := 1) rfl rfl J rfl rfl rfl (ps := [(0, .string (⟨#[101, 110, 100]⟩ : ByteArray))]) rfl (cells := [.string (⟨#[101, 110, 100]⟩ : ByteArray)]) (by kernel_rfl) [(⟨#[101, 110, 100]⟩ : ByteArray)] rfl rfl (by unfold maxLen; omega) rfl M.o E.o ?_; clear J E M a; intro b21 a w34 J M E; replace E := Bx.mk E; replace M := Bx.mk M; refine ⟨E.o, ?_⟩;revert a;refine Zk 7 ?_;refine yo (XA _ _ _ ([n.aj, n.ax, n.am]) _ (HT.o.below M.o.bel) (by simp) (St.rdN M.o Zp 1 rfl)) func28 ?_;rintro _ w36 ⟨ao22, cp22, rfl, hs⟩;refine ⟨_, rfl, ?_⟩;replace E := Bx.mk (E.o.later hs.bel); replace M := M.ad hs;clear hs;intro a J;replace M:=M.nm;refine ⟨E.o, ?_⟩;revert a;refine Zk 10 ?_;refine yo (QQ n.ah _ (HT.o.below M.o.bel)) func29 ?_;rintro _ w38 ⟨ao23, cp23, rfl, hs⟩;refine ⟨_, rfl, ?_⟩;replace E := Bx.mk (E.o.later hs.bel); replace M := M.ad hs;clear hs;intro a J;replace M:=M.nm;refine ⟨E.o, ?_⟩;revert a;refine Zk 11 ?_;intro a J;refine Yq rfl rfl J rfl rfl rfl (J.ev rfl) (J.ev rfl) Y3 Zf M.o 1 (xs := ([n.aj, n.ax, n.am]).map ZI) rfl (ys := JX n.ah) (St.rdN M.o Zf 0 rfl) (Zv _) (by unfold maxLen; (try simp only [length_append, length_cons, length_nil, nil_append, length_map, Z9, length_map]); omega) (by (try simp only [length_append, length_cons, length_nil, nil_append, length_map, Z9, length_map]); omega) ?_; clear J E M a; intro ao24 cp25 w40 a J M; replace M := Bx.mk M;replace M:=M.nm;have E:=M.ers [3,2,1,0];refine ⟨E.o, ?_⟩;revert a;refine Zk 13 ?_;intro a J;refine Yq rfl rfl J rfl rfl rfl (J.ev rfl) (J.ev rfl) Y3 Zf M.o 1 (xs := (([n.aj, n.ax, n.am]).map ZI) ++ (JX n.ah)) rfl (ys := [(⟨#[101, 110, 100]⟩ : ByteArray)]) (St.rdN M.o Zf 2 rfl) (Zv _) (by unfold maxLen; (try simp only [length_append, length_cons, length_nil, nil_append, length_map, Z9, length_map]); omega) (by (try simp only [length_append, length_cons, length_nil, nil_append, length_map, Z9, length_map]); omega) ?_; clear J E M a; intro ao26 cp27 w42 a J M; replace M := Bx.mk M;replace M:=M.nm;have E:=M.ers [3,2,1,0];refine ⟨E.o, ?_⟩;revert a;refine Zk 14 ?_;refine yoB (X0 _ _ _ (Xs n) _ (HT.o.below M.o.bel) (by rw [UP]; omega) (UO n) (St.rdN M.o Zf 1 rfl)) func27 ?_;intro w43 hb; replace E := Bx.mk (E.o.later hb); replace M := Bx.mk (M.o.later hb);clear hb; refine onb E.o ?_;refine Hp 15 E rfl<|Hp 16 E rfl<|Hp 17 E rfl<|Hp 18 E rfl<|Hp 19 E rfl ?_;refine hdn ?_;replace E := M; clear M;replace E:=E.pks [4,4,3,3,4];intro a J;exact ZD ⟨_, _, _, _, _, _, J.ls _, E.o⟩;intro a J;refine ZK (enc := Zu) (e := 9) (size := 1) rfl rfl J rfl rfl rfl (ps := [(0, .string (⟨#[101, 110, 100]⟩ : ByteArray))]) rfl (cells := [.string (⟨#[101, 110, 100]⟩ : ByteArray)]) (by kernel_rfl) [(⟨#[101, 110, 100]⟩ : ByteArray)] rfl rfl (by unfold maxLen; omega) rfl M.o E.o ?_; clear J E M a; intro b28 a w45 J M E; replace E := Bx.mk E; replace M := Bx.mk M; refine ⟨E.o, ?_⟩;revert a;refine Zk 6 ?_;intro a J;refine ZK (enc := ZG) (e := 3) (size := 1) rfl rfl J rfl rfl rfl (ps := [(0, .int .i64 n.aj), (1, .int .i64 n.ax), (2, .int .i64 n.am)]) rfl (cells := [.int .i64 n.aj, .int .i64 n.ax, .int .i64 n.am]) (by kernel_rfl) [n.aj, n.ax, n.am] rfl rfl (by unfold maxLen; omega) rfl M.o E.o ?_; clear J E M a; intro b29 a w47 J M E; replace E := Bx.mk E; replace M := Bx.mk M; refine ⟨E.o, ?_⟩;revert a;refine Zk 7 ?_;refine yo (XA _ _ _ ([n.aj, n.ax, n.am]) _ (HT.o.below M.o.bel) (by simp) (St.rdN M.o Zp 0 rfl)) func28 ?_;rintro _ w49 ⟨ao30, cp30, rfl, hs⟩;refine ⟨_, rfl, ?_⟩;replace E := Bx.mk (E.o.later hs.bel); replace M := M.ad hs;clear hs;intro a J;replace M:=M.nm;refine ⟨E.o, ?_⟩;revert a;refine Zk 10 ?_;refine yo (QQ n.ah _ (HT.o.below M.o.bel)) func29 ?_;rintro _ w51 ⟨ao31, cp31, rfl, hs⟩;refine ⟨_, rfl, ?_⟩;replace E := Bx.mk (E.o.later hs.bel); replace M := M.ad hs;clear hs;intro a J;replace M:=M.nm;refine ⟨E.o, ?_⟩;revert a;refine Zk 11 ?_;intro a J;refine Yq rfl rfl J rfl rfl rfl (J.ev rfl) (J.ev rfl) Y3 Zf M.o 1 (xs := ([n.aj, n.ax, n.am]).map ZI) rfl (ys := JX n.ah) (St.rdN M.o Zf 0 rfl) (Zv _) (by unfold maxLen; (try simp only [length_append, length_cons, length_nil, nil_append, length_map, Z9, length_map]); omega) (by (try simp only [length_append, length_cons, length_nil, nil_append, length_map, Z9, length_map]); omega) ?_; clear J E M a; intro ao32 cp33 w53 a J M; replace M := Bx.mk M;replace M:=M.nm;have E:=M.ers [3,2,1,0];refine ⟨E.o, ?_⟩;revert a;refine Zk 13 ?_;intro a J;refine Yq rfl rfl J rfl rfl rfl (J.ev rfl) (J.ev rfl) Y3 Zf M.o 1 (xs := (([n.aj, n.ax, n.am]).map ZI) ++ (JX n.ah)) rfl (ys := [(⟨#[101, 110, 100]⟩ : ByteArray)]) (St.rdN M.o Zf 3 rfl) (Zv _) (by unfold maxLen; (try simp only [length_append, length_cons, length_nil, nil_append, length_map, Z9, length_map]); omega) (by (try simp only [length_append, length_cons, length_nil, nil_append, length_map, Z9, length_map]); omega) ?_; clear J E M a; intro ao34 cp35 w55 a J M; replace M := Bx.mk M;replace M:=M.nm;have E:=M.ers [3,2,1,0];refine ⟨E.o, ?_⟩;revert a;refine Zk 14 ?_;refine yoB (X0 _ _ _ (Xs n) _ (HT.o.below M.o.bel) (by rw [UP]; omega) (UO n) (St.rdN M.o Zf 1 rfl)) func27 ?_;intro w56 hb; replace E := Bx.mk (E.o.later hb); replace M := Bx.mk (M.o.later hb);clear hb; refine onb E.o ?_;refine Hp 15 E rfl<|Hp 16 E rfl<|Hp 17 E rfl<|Hp 18 E rfl<|Hp 19 E rfl ?_;refine hdn ?_;replace E := M; clear M;replace E:=E.pks [4,3,3,3,4];intro a J;exact ZD ⟨_, _, _, _, _, _, J.ls _, E.o⟩;clear J E a; rintro a w57 ⟨b7, ao4, cp4, ao8, cp9, b2, J, E⟩; replace E := Bx.mk E;revert a;refine xet<|xsr<|xr 2 rfl<|xne<|xre<|xb1 results9 rfl ?_;have hok : n.ok = true := by simpa using cc1
 exact ⟨by rw [Zct hok] <;> rfl, E.o.bel⟩
theorem Jr (n : Zb) (w0 : World) : Calls prog 11 #[nV n] w0 fun e w' => e = .returned (.string (ZY n)) ∧ Below w0.heap.size w0 w' := by
 have E := Bx.mk (St.start w0);refine ent func11 ntmps11 ?_;refine xsr ?_;refine ybx E ?_;clear E;intro w1 b1 E;refine xr 1 rfl<|xne<|xsq<|xsr<|Xw 0 10 E rfl rfl ?_;refine ycB (J4 n _) func8 E ?_;clear E;intro w2 E;refine xr 1 rfl<|xne<|xcs 7 rfl (fun cc1=>?_) fun cc1=>?_;refine xct rfl<|xsr<|xr 1 rfl<|xne<|xre<|xtr<|xb1 results11 rfl ?_;exact ⟨by rw [QU (by simpa using cc1)]; rfl, E.o.bel⟩;refine xcf rfl<|xsk<|xet<|xsq ?_;have hok : n.ok = true := by simpa using cc1
 have hsm := (Zb.ok_is hok).small; have k1 := hsm.links; have k2 := hsm.size; have k3 := hsm.many; have k4 := hsm.depth; have k5 := hsm.kind; have hel := YO n.aj;have hz_fKind : (Zy n.aj.toNat).size ≤ 9 := JU (by omega);have hz_fLinks : (Zy n.ax.toNat).size ≤ 9 := JU (by omega);have hz_fSize : (Zy n.am.toNat).size ≤ 9 := JU (by omega);have hz_fTree_fDepth : (Zy n.ah.aw.toNat).size ≤ 9 := JU (by omega);have hz_fTree_fMany : (Zy n.ah.ai.toNat).size ≤ 9 := JU (by omega);refine hld [] E ?_;clear E;intro w3 E M;refine Hf 0 0 E rfl<|Hl 1 0 E rfl rfl<|Hf 3 1 E rfl<|Hl 4 0 E rfl rfl<|Hf 6 2 E rfl<|Hl 7 0 E rfl rfl<|Hf 9 3 E rfl<|Hf 10 0 E rfl<|Hw 11 0 5 E rfl rfl<|Hf 13 3 E rfl<|Hf 14 5 E rfl<|Hl 15 0 E rfl rfl<|Hf 17 3 E rfl<|Hf 18 6 E rfl<|Hl 19 0 E rfl rfl ?_;refine Zk 2 ?_;refine yoB (YW n.aj (by omega) (by omega) _) func31 ?_;intro w4 hb; replace E := Bx.mk (E.o.later hb); replace M := Bx.mk (M.o.later hb);clear hb; refine onb E.o ?_;refine Zk 5 ?_;refine yoB (YW n.ax (by omega) (by omega) _) func31 ?_;intro w5 hb; replace E := Bx.mk (E.o.later hb); replace M := Bx.mk (M.o.later hb);clear hb; refine onb E.o ?_;refine Zk 8 ?_;refine yoB (YW n.am (by omega) (by omega) _) func31 ?_;intro w6 hb; replace E := Bx.mk (E.o.later hb); replace M := Bx.mk (M.o.later hb);clear hb; refine onb E.o ?_;refine Zk 12 ?_;refine yoB (Jj n.ah.af _) func32 ?_;intro w7 hb; replace E := Bx.mk (E.o.later hb); replace M := Bx.mk (M.o.later hb);clear hb; refine onb E.o ?_;refine Zk 16 ?_;refine yoB (YW n.ah.aw (by omega) (by omega) _) func31 ?_;intro w8 hb; replace E := Bx.mk (E.o.later hb); replace M := Bx.mk (M.o.later hb);clear hb; refine onb E.o ?_;refine Zk 20 ?_;refine yoB (YW n.ah.ai (by omega) (by omega) _) func31 ?_;intro w9 hb; replace E := Bx.mk (E.o.later hb); replace M := Bx.mk (M.o.later hb);clear hb; refine onb E.o ?_;refine Zk 21 ?_;intro a J;refine ZK (enc := Zu) (e := 9) (size := 1) rfl rfl J rfl rfl rfl (ps := [(0, .string (Zy n.aj.toNat)), (1, .string (Zy n.ax.toNat)), (2, .string (Zy n.am.toNat)), (3, .string (Z4 n.ah.af)), (4, .string (Zy n.ah.aw.toNat)), (5, .string (Zy n.ah.ai.toNat)), (6, .string (⟨#[101, 110, 100]⟩ : ByteArray))]) rfl (cells := [.string (Zy n.aj.toNat), .string (Zy n.ax.toNat), .string (Zy n.am.toNat), .string (Z4 n.ah.af), .string (Zy n.ah.aw.toNat), .string (Zy n.ah.ai.toNat), .string (⟨#[101, 110, 100]⟩ : ByteArray)]) (by kernel_rfl) [Zy n.aj.toNat, Zy n.ax.toNat, Zy n.am.toNat, Z4 n.ah.af, Zy n.ah.aw.toNat, Zy n.ah.ai.toNat, (⟨#[101, 110, 100]⟩ : ByteArray)] rfl rfl (by unfold maxLen; omega) rfl M.o E.o ?_; clear J E M a; intro b2 a w11 J M E; replace E := Bx.mk E; replace M := Bx.mk M; refine ⟨E.o, ?_⟩;revert a;refine Zk 22 ?_;refine yoB (JV _ _ _ ([Zy n.aj.toNat, Zy n.ax.toNat, Zy n.am.toNat, Z4 n.ah.af, Zy n.ah.aw.toNat, Zy n.ah.ai.toNat, (⟨#[101, 110, 100]⟩ : ByteArray)]) _ (by (try simp only [length_append, length_cons, length_nil, nil_append, length_map]); omega) (Yz (by omega) (Yz (by omega) (Yz (by omega) (Yz (Nat.le_trans (ZbK _) (by decide)) (Yz (by omega) (Yz (by omega) (Yz (by decide) Ul))))))) (St.rdN M.o Zf 0 rfl)) func30 ?_;intro w12 hb; replace E := Bx.mk (E.o.later hb); replace M := Bx.mk (M.o.later hb);clear hb; refine onb E.o ?_;refine Hp 23 E rfl<|Hp 24 E rfl<|Hp 25 E rfl<|Hp 26 E rfl<|Hp 27 E rfl ?_;refine hdn ?_;replace E := M; clear M;refine xet<|xsr<|xr 2 rfl<|xne<|xre<|xb1 results11 rfl ?_;have hok : n.ok = true := by simpa using cc1
 have hsm := (Zb.ok_is hok).small; have k1 := hsm.links; have k2 := hsm.size; have k3 := hsm.many; have k4 := hsm.depth; have k5 := hsm.kind; have hel := YO n.aj;have hL : Xs n = [Zy n.aj.toNat, Zy n.ax.toNat, Zy n.am.toNat, Z4 n.ah.af, Zy n.ah.aw.toNat, Zy n.ah.ai.toNat, Zl6] := by unfold Xs; rw [YR (n := n.aj) (by omega) (by omega), YR (n := n.ax) (by omega) (by omega), YR (n := n.am) (by omega) (by omega), YR (n := n.ah.aw) (by omega) (by omega), YR (n := n.ah.ai) (by omega) (by omega)]
 exact ⟨by rw [Zct hok, hL] <;> rfl, E.o.bel⟩
theorem Zor {α : Type} {l : List α} (h : l.length = 7) : ∃ a b c d e f g, l = [a, b, c, d, e, f, g] := by
 match l, h with
 | [a, b, c, d, e, f, g], _ => exact ⟨a, b, c, d, e, f, g, rfl⟩
theorem Zfl {n : Zb} (h : n.ok = true) : IsTree (Z4 n.ah.af) (ZI n.ah.aw) (ZI n.ah.ai) n.ah := by
 have a := Zb.ok_is h;have s := a.small;have k3 := s.many; have k4 := s.depth;exact ⟨a.root, rfl, ⟨by omega, by omega, rfl⟩, ⟨by omega, by omega, rfl⟩⟩
theorem Vy (s : ByteArray) (w0 : World) (hT : UG w0) (hM : ZbL w0) (hE : ZbN w0) (hs : s.size ≤ 1000000) : Calls prog 12 #[.string s] w0 fun e w' => (∃ n : Zb, n.ok = true ∧ ZY n = s ∧ e = .returned (.tuple #[nV n, .bool true]) ∧ Below w0.heap.size w0 w') ∨ ((∀ n : Zb, n.ok = true → ZY n = s → False) ∧ e = .returned (.tuple #[ZgV, .bool false]) ∧ Below w0.heap.size w0 w') := by
 have HT := Bx.mk hT; have HM := Bx.mk hM; have HE := Bx.mk hE; clear hT hM hE;have E := Bx.mk (St.start w0);refine ent func12 ntmps12 ?_;refine xsr ?_;refine yal z10 E ?_;clear E;intro w1 b1 E;refine xr 1 rfl<|xne<|xsr<|xr 1 rfl ?_;refine yc (ZeM s _ (HT.o.below E.o.bel) (HM.o.below E.o.bel) (HE.o.below E.o.bel) (by omega)) func33 ?_;rintro _ w2 (⟨xs, hrec, hsz, ao, cp, rfl, hs1⟩ | ⟨hno, rfl, hb⟩);refine ⟨_, rfl, ?_⟩; replace E := E.ad hs1;clear hs1;refine xr 5 rfl<|xne<|xsq<|xsr<|xr 4 rfl<|xy rfl (vn 9 1 rfl)<|xr 2 rfl<|xne<|xcn 20 rfl (fun _ dcc1=>?_) fun _ dcc1=>?_;refine xct rfl<|xsr<|xy rfl (vb z10 rfl) ?_;refine yst E 1 ?_;clear E;intro w3 E;replace E:=E.nm;refine xr 1 rfl<|xne<|xre<|xtr ?_;intro a J;refine Zw J results12 (J.resBox rfl (E.o.box 1 rfl) (by kernel_rfl)) (J.res rfl) ?_;refine .inr ⟨fun x hx hxs => ?_, rfl, E.o.bel⟩;have hl6 := YM hx; rw [hxs] at hl6; have hx2 := YB x; rw [hxs] at hx2; have hsm := (Xt hx).1; have k1 := hsm.links; have k2 := hsm.size; have k3 := hsm.many; have k4 := hsm.depth; have k5 := hsm.kind; have hel := YO x.aj;have hone := hrec.one hl6;rw [hone] at dcc1; exact dcc1 rfl;refine xcf rfl<|xsk<|xet<|xsq ?_;obtain ⟨y0, y1, y2, y3, y4, y5, y6, rfl⟩ := Zor (l := xs) (by omega);intro a J;replace J : Fr 63 a [(0, .string s), (2, .pointer (some ⟨b1, 0, none⟩)), (3, .bool false), (10, .string s), (12, .slice ao 7 cp), (13, .bool true), (4, .slice ao 7 cp), (5, .bool true), (14, .bool true), (15, .bool false), (16, .bool false), (17, .slice ao 7 cp), (20, .bool false)] := J.ls _;obtain ⟨g2, rfl, _, _, _, _⟩ := E.o.rowOpen 0 rfl (Nat.succ_pos _);have hcap := E.o.capLe 0 rfl;have hy0 : y0.size ≤ 2048 := by have := YD [y0, y1, y2, y3, y4, y5, y6] (k := 0) (by simp only [length_cons, length_nil]; omega); rw [hrec.is] at this; have e : ([y0, y1, y2, y3, y4, y5, y6] : List ByteArray).getD 0 ByteArray.empty = y0 := rfl; rw [e] at this; omega
 have hy1 : y1.size ≤ 2048 := by have := YD [y0, y1, y2, y3, y4, y5, y6] (k := 1) (by simp only [length_cons, length_nil]; omega); rw [hrec.is] at this; have e : ([y0, y1, y2, y3, y4, y5, y6] : List ByteArray).getD 1 ByteArray.empty = y1 := rfl; rw [e] at this; omega
 have hy2 : y2.size ≤ 2048 := by have := YD [y0, y1, y2, y3, y4, y5, y6] (k := 2) (by simp only [length_cons, length_nil]; omega); rw [hrec.is] at this; have e : ([y0, y1, y2, y3, y4, y5, y6] : List ByteArray).getD 2 ByteArray.empty = y2 := rfl; rw [e] at this; omega
 have hy3 : y3.size ≤ 2048 := by have := YD [y0, y1, y2, y3, y4, y5, y6] (k := 3) (by simp only [length_cons, length_nil]; omega); rw [hrec.is] at this; have e : ([y0, y1, y2, y3, y4, y5, y6] : List ByteArray).getD 3 ByteArray.empty = y3 := rfl; rw [e] at this; omega
 have hy4 : y4.size ≤ 2048 := by have := YD [y0, y1, y2, y3, y4, y5, y6] (k := 4) (by simp only [length_cons, length_nil]; omega); rw [hrec.is] at this; have e : ([y0, y1, y2, y3, y4, y5, y6] : List ByteArray).getD 4 ByteArray.empty = y4 := rfl; rw [e] at this; omega
 have hy5 : y5.size ≤ 2048 := by have := YD [y0, y1, y2, y3, y4, y5, y6] (k := 5) (by simp only [length_cons, length_nil]; omega); rw [hrec.is] at this; have e : ([y0, y1, y2, y3, y4, y5, y6] : List ByteArray).getD 5 ByteArray.empty = y5 := rfl; rw [e] at this; omega
 have hy6 : y6.size ≤ 2048 := by have := YD [y0, y1, y2, y3, y4, y5, y6] (k := 6) (by simp only [length_cons, length_nil]; omega); rw [hrec.is] at this; have e : ([y0, y1, y2, y3, y4, y5, y6] : List ByteArray).getD 6 ByteArray.empty = y6 := rfl; rw [e] at this; omega
 revert a;refine xrl ?_;refine yal z10 E ?_;clear E;intro w4 b3 E;refine xne<|xsq<|xsr<|Xf 0 rfl<|Xf 1 rfl<|Xf 2 rfl ?_;refine ybs Znm 59 1 [(some ⟨b3, 0 + 0, none⟩), (some ⟨b3, 0 + 1, none⟩), (some ⟨b3, 0 + 2, none⟩)] E ?_;clear E;intro b4 w5 E;refine xy rfl (vn 59 1 rfl)<|xr 1 rfl<|xne<|xbl ?_;intro a J;refine Zco 5 ?_;revert a;refine xsr<|xr 1 rfl<|xne<|xsq ?_;intro a J;replace J := J.know (k := 28) (c := true) rfl (by decide);revert a;refine xct rfl<|xsk<|xet<|xsq<|xbl<|xsr<|xr 1 rfl<|xy rfl (vx 59 0 1 rfl)<|xy rfl (ve Xq E.o 0 0 rfl rfl rfl rfl)<|xr 2 rfl<|xne<|xsr<|xr 3 rfl<|xy rfl (vx 9 0 1 rfl)<|xy rfl (ve Zf E.o 2 0 rfl rfl rfl rfl) ?_;refine yc (ZJ y0 _ (HT.o.below E.o.bel) (HE.o.below E.o.bel)) func34 ?_;rintro _ w6 (⟨n5, hg5, rfl, hb⟩ | ⟨hg5, rfl, hb⟩);refine ⟨_, rfl, ?_⟩; replace E := Bx.mk (E.o.later hb);clear hb;refine xr 4 rfl ?_;refine ysF 1 E ?_;clear E;intro w7 E;replace E:=E.nm;refine xr 1 rfl<|xne<|xsr<|xr 2 rfl<|xne<|xcf rfl<|xsk<|xeb<|xet<|xrl<|xy rfl (fun a J=>Yc (r := 1) rfl (J.ev rfl) (J.ev rfl) (by decide))<|xr 1 rfl<|xne ?_;intro a J;refine Xp 4 ?_;revert a;refine xsr<|xr 1 rfl<|xne<|xsq ?_;intro a J;replace J := J.know (k := 28) (c := true) rfl (by decide);revert a;refine xct rfl<|xsk<|xet<|xsq<|xbl<|xsr<|xr 1 rfl<|xy rfl (vx 59 1 1 rfl)<|xy rfl (ve Xq E.o 0 1 rfl rfl rfl rfl)<|xr 2 rfl<|xne<|xsr<|xr 3 rfl<|xy rfl (vx 9 1 1 rfl)<|xy rfl (ve Zf E.o 2 1 rfl rfl rfl rfl) ?_;refine yc (ZJ y1 _ (HT.o.below E.o.bel) (HE.o.below E.o.bel)) func34 ?_;rintro _ w8 (⟨n6, hg6, rfl, hb⟩ | ⟨hg6, rfl, hb⟩);refine ⟨_, rfl, ?_⟩; replace E := Bx.mk (E.o.later hb);clear hb;refine xr 4 rfl ?_;refine ysF 1 E ?_;clear E;intro w9 E;replace E:=E.nm;refine xr 1 rfl<|xne<|xsr<|xr 2 rfl<|xne<|xcf rfl<|xsk<|xeb<|xet<|xrl<|xy rfl (fun a J=>Yc (r := 2) rfl (J.ev rfl) (J.ev rfl) (by decide))<|xr 1 rfl<|xne ?_;intro a J;refine Xp 3 ?_;revert a;refine xsr<|xr 1 rfl<|xne<|xsq ?_;intro a J;replace J := J.know (k := 28) (c := true) rfl (by decide);revert a;refine xct rfl<|xsk<|xet<|xsq<|xbl<|xsr<|xr 1 rfl<|xy rfl (vx 59 2 1 rfl)<|xy rfl (ve Xq E.o 0 2 rfl rfl rfl rfl)<|xr 2 rfl<|xne<|xsr<|xr 3 rfl<|xy rfl (vx 9 2 1 rfl)<|xy rfl (ve Zf E.o 2 2 rfl rfl rfl rfl) ?_;refine yc (ZJ y2 _ (HT.o.below E.o.bel) (HE.o.below E.o.bel)) func34 ?_;rintro _ w10 (⟨n7, hg7, rfl, hb⟩ | ⟨hg7, rfl, hb⟩);refine ⟨_, rfl, ?_⟩; replace E := Bx.mk (E.o.later hb);clear hb;refine xr 4 rfl ?_;refine ysF 1 E ?_;clear E;intro w11 E;replace E:=E.nm;refine xr 1 rfl<|xne<|xsr<|xr 2 rfl<|xne<|xcf rfl<|xsk<|xeb<|xet<|xrl<|xy rfl (fun a J=>Yc (r := 3) rfl (J.ev rfl) (J.ev rfl) (by decide))<|xr 1 rfl<|xne ?_;intro a J;refine Xp 2 ?_;revert a;refine xsr<|xr 1 rfl<|xne<|xsq ?_;intro a J;replace J := J.know (k := 28) (c := false) rfl (by decide);revert a;refine xcf rfl<|xex<|xtx<|xtx<|xbh<|xet<|xsr<|xr 1 rfl<|xy rfl (fun a J=>ZiB (e := 9) (size := 1) (k := 3) (j := 6) rfl (J.ev rfl) (J.ev rfl) (J.ev rfl) (by kernel_rfl) rfl rfl (by decide) (by omega) (by omega)) ?_;refine yc (ZiC _ _ y3 y4 y5 _ (HT.o.below E.o.bel) (HM.o.below E.o.bel) (HE.o.below E.o.bel) (by omega) (((St.rdN E.o Zf 2 rfl).drop (k := 3) (by simp)).take (k := 3) (by simp))) func35 ?_;rintro _ w12 (⟨t, htr, rfl, hb⟩ | ⟨t, htn, rfl, hb⟩);refine ⟨_, rfl, ?_⟩; replace E := Bx.mk (E.o.later hb);clear hb;refine xr 3 rfl<|Xf 3 rfl ?_;intro a J;refine ZZ rfl rfl rfl (J.ev rfl) (J.ev rfl) E.o 1 rfl (by kernel_rfl) rfl (by kernel_rfl) (rs := nPL (n5 : Int) (n6 : Int) (n7 : Int) t) rfl ?_; clear E; intro w13 E; replace E := Bx.mk E;replace E:=E.nm;revert a;refine xr 1 rfl<|xne<|xsq<|xsr<|xr 3 rfl<|Xw 1 10 E rfl rfl ?_;refine VJ (Vx (⟨(n5 : Int), (n6 : Int), (n7 : Int), ⟨t.af, t.aw, t.ai⟩⟩ : Zb) _ (HT.o.below E.o.bel)) func9 E ?_;clear E;intro w14 E;refine xr 1 rfl<|xy rfl (fun a J=>Xk rfl (J.ev rfl) (J.ev rfl))<|xr 1 rfl<|xne<|xcs 60 rfl (fun cc2=>?_) fun cc2=>?_;refine xct rfl<|xsr<|xy rfl (vb z10 rfl) ?_;refine yst E 3 ?_;clear E;intro w15 E;replace E:=E.nm;refine xr 1 rfl<|xne<|xre<|xtr ?_;intro a J;refine Zw J results12 (J.resBox rfl (E.o.box 3 rfl) (by kernel_rfl)) (J.res rfl) ?_;refine .inr ⟨fun x hx hxs => ?_, rfl, E.o.bel⟩;have hl6 := YM hx; rw [hxs] at hl6; have hx2 := YB x; rw [hxs] at hx2; have hsm := (Xt hx).1; have k1 := hsm.links; have k2 := hsm.size; have k3 := hsm.many; have k4 := hsm.depth; have k5 := hsm.kind; have hel := YO x.aj;have hone := hrec.one hl6;simp only [Xs, List.cons.injEq, and_true] at hone; obtain ⟨z0, z1, z2, z3, z4, z5, _⟩ := hone;have hxt := Zfl hx; rw [← z3, ← z4, ← z5] at hxt;have e0 : (n5 : Int) = x.aj := Jg (VY hg5) ⟨by omega, by omega, z0.symm⟩;have e1 : (n6 : Int) = x.ax := Jg (VY hg6) ⟨by omega, by omega, z1.symm⟩;have e2 : (n7 : Int) = x.am := Jg (VY hg7) ⟨by omega, by omega, z2.symm⟩;have e4 := htr.one hxt; have e3 : (⟨(n5 : Int), (n6 : Int), (n7 : Int), t⟩ : Zb) = x := by rw [e0, e1, e2, e4]
 rw [e3, hxs] at cc2; simp at cc2;refine xcf rfl<|xsk<|xet<|xsr<|Xw 1 10 E rfl rfl ?_;refine yst E 3 ?_;clear E;intro w16 E;replace E:=E.nm;refine xr 1 rfl<|xne<|xre ?_;intro a J;refine Zw J results12 (J.resBox rfl (E.o.box 3 rfl) (by kernel_rfl)) (J.res rfl) ?_;have hrt : ZY (⟨(n5 : Int), (n6 : Int), (n7 : Int), t⟩ : Zb) = s := ZN (by simpa using cc2);have hro : (⟨(n5 : Int), (n6 : Int), (n7 : Int), t⟩ : Zb).ok = true := by
     cases ho : (⟨(n5 : Int), (n6 : Int), (n7 : Int), t⟩ : Zb).ok with
     | true => rfl
     | false =>
       rw [QU ho] at hrt;have := hrec.is;rw [← hrt] at this;exact absurd (by rw [this]; rfl) (Zdq y0 [y1, y2, y3, y4, y5, y6])
 exact .inl ⟨_, hro, hrt, rfl, E.o.bel⟩;refine ⟨_, rfl, ?_⟩; replace E := Bx.mk (E.o.later hb);clear hb;refine xr 3 rfl<|Xf 3 rfl ?_;intro a J;refine ZZ rfl rfl rfl (J.ev rfl) (J.ev rfl) E.o 1 rfl (by kernel_rfl) rfl (by kernel_rfl) (rs := nPL (n5 : Int) (n6 : Int) (n7 : Int) t) rfl ?_; clear E; intro w17 E; replace E := Bx.mk E;replace E:=E.nm;revert a;refine xr 1 rfl<|xne<|xsq<|xsr<|xr 8 rfl<|xne<|xct rfl<|xsr<|xy rfl (vb z10 rfl) ?_;refine yst E 3 ?_;clear E;intro w18 E;replace E:=E.nm;refine xr 1 rfl<|xne<|xre<|xtr ?_;intro a J;refine Zw J results12 (J.resBox rfl (E.o.box 3 rfl) (by kernel_rfl)) (J.res rfl) ?_;refine .inr ⟨fun x hx hxs => ?_, rfl, E.o.bel⟩;have hl6 := YM hx; rw [hxs] at hl6; have hx2 := YB x; rw [hxs] at hx2; have hsm := (Xt hx).1; have k1 := hsm.links; have k2 := hsm.size; have k3 := hsm.many; have k4 := hsm.depth; have k5 := hsm.kind; have hel := YO x.aj;have hone := hrec.one hl6;simp only [Xs, List.cons.injEq, and_true] at hone; obtain ⟨z0, z1, z2, z3, z4, z5, _⟩ := hone;have hxt := Zfl hx; rw [← z3, ← z4, ← z5] at hxt;exact htn _ hxt;refine ⟨_, rfl, ?_⟩; replace E := Bx.mk (E.o.later hb);clear hb;refine xr 4 rfl ?_;refine ysF 1 E ?_;clear E;intro w19 E;replace E:=E.nm;refine xr 1 rfl<|xne<|xsr<|xr 2 rfl<|xne<|xct rfl<|xsr<|xy rfl (vb z10 rfl) ?_;refine yst E 3 ?_;clear E;intro w20 E;replace E:=E.nm;refine xr 1 rfl<|xne<|xre<|xbr<|xtr<|xtr<|xbr<|xtr ?_;intro a J;refine Zw J results12 (J.resBox rfl (E.o.box 3 rfl) (by kernel_rfl)) (J.res rfl) ?_;refine .inr ⟨fun x hx hxs => ?_, rfl, E.o.bel⟩;have hl6 := YM hx; rw [hxs] at hl6; have hx2 := YB x; rw [hxs] at hx2; have hsm := (Xt hx).1; have k1 := hsm.links; have k2 := hsm.size; have k3 := hsm.many; have k4 := hsm.depth; have k5 := hsm.kind; have hel := YO x.aj;have hone := hrec.one hl6;simp only [Xs, List.cons.injEq, and_true] at hone; obtain ⟨z0, z1, z2, z3, z4, z5, _⟩ := hone;exact Zcs (n := x.am) ⟨by omega, by omega, z2.symm⟩ hg7;refine ⟨_, rfl, ?_⟩; replace E := Bx.mk (E.o.later hb);clear hb;refine xr 4 rfl ?_;refine ysF 1 E ?_;clear E;intro w21 E;replace E:=E.nm;refine xr 1 rfl<|xne<|xsr<|xr 2 rfl<|xne<|xct rfl<|xsr<|xy rfl (vb z10 rfl) ?_;refine yst E 3 ?_;clear E;intro w22 E;replace E:=E.nm;refine xr 1 rfl<|xne<|xre<|xbr<|xtr<|xtr<|xbr<|xtr ?_;intro a J;refine Zw J results12 (J.resBox rfl (E.o.box 3 rfl) (by kernel_rfl)) (J.res rfl) ?_;refine .inr ⟨fun x hx hxs => ?_, rfl, E.o.bel⟩;have hl6 := YM hx; rw [hxs] at hl6; have hx2 := YB x; rw [hxs] at hx2; have hsm := (Xt hx).1; have k1 := hsm.links; have k2 := hsm.size; have k3 := hsm.many; have k4 := hsm.depth; have k5 := hsm.kind; have hel := YO x.aj;have hone := hrec.one hl6;simp only [Xs, List.cons.injEq, and_true] at hone; obtain ⟨z0, z1, z2, z3, z4, z5, _⟩ := hone;exact Zcs (n := x.ax) ⟨by omega, by omega, z1.symm⟩ hg6;refine ⟨_, rfl, ?_⟩; replace E := Bx.mk (E.o.later hb);clear hb;refine xr 4 rfl ?_;refine ysF 1 E ?_;clear E;intro w23 E;replace E:=E.nm;refine xr 1 rfl<|xne<|xsr<|xr 2 rfl<|xne<|xct rfl<|xsr<|xy rfl (vb z10 rfl) ?_;refine yst E 3 ?_;clear E;intro w24 E;replace E:=E.nm;refine xr 1 rfl<|xne<|xre<|xbr<|xtr<|xtr<|xbr<|xtr ?_;intro a J;refine Zw J results12 (J.resBox rfl (E.o.box 3 rfl) (by kernel_rfl)) (J.res rfl) ?_;refine .inr ⟨fun x hx hxs => ?_, rfl, E.o.bel⟩;have hl6 := YM hx; rw [hxs] at hl6; have hx2 := YB x; rw [hxs] at hx2; have hsm := (Xt hx).1; have k1 := hsm.links; have k2 := hsm.size; have k3 := hsm.many; have k4 := hsm.depth; have k5 := hsm.kind; have hel := YO x.aj;have hone := hrec.one hl6;simp only [Xs, List.cons.injEq, and_true] at hone; obtain ⟨z0, z1, z2, z3, z4, z5, _⟩ := hone;exact Zcs (n := x.aj) ⟨by omega, by omega, z0.symm⟩ hg5;refine ⟨_, rfl, ?_⟩; replace E := Bx.mk (E.o.later hb);clear hb;refine xr 5 rfl<|xne<|xsq<|xsr<|xr 7 rfl<|xne<|xct rfl<|xsr<|xy rfl (vb z10 rfl) ?_;refine yst E 0 ?_;clear E;intro w25 E;replace E:=E.nm;refine xr 1 rfl<|xne<|xre<|xtr ?_;intro a J;refine Zw J results12 (J.resBox rfl (E.o.box 0 rfl) (by kernel_rfl)) (J.res rfl) ?_;refine .inr ⟨fun x hx hxs => ?_, rfl, E.o.bel⟩;have hl6 := YM hx; rw [hxs] at hl6; have hx2 := YB x; rw [hxs] at hx2; have hsm := (Xt hx).1; have k1 := hsm.links; have k2 := hsm.size; have k3 := hsm.many; have k4 := hsm.depth; have k5 := hsm.kind; have hel := YO x.aj;exact hno _ hl6 (by omega)
def Xx (y : ByteArray) : Int := match Qs y with | some n => (n : Int) | none => 0
theorem Qe (y : ByteArray) (w0 : World) (hs : y.size ≤ 1000000) : Calls prog 39 #[.string y] w0 fun e w' => e = .returned (.tuple #[.int .i64 (Xx y), .bool (Qs y).isSome]) ∧ Below w0.heap.size w0 w' := by
 refine (VP y w0 (by omega)).mono ?_;rintro e w' (⟨n, hg, rfl, hb⟩ | ⟨hg, rfl, hb⟩)
 ·exact ⟨by unfold Xx; rw [hg]; rfl, hb⟩
 ·exact ⟨by unfold Xx; rw [hg]; rfl, hb⟩
theorem X1 {n : Int} (h : 0 ≤ n ∧ n ≤ 999999999) : Xx (ZI n) = n := by
 unfold Xx;rw [Z6 h];show ((n.toNat : Nat) : Int) = n
 omega
open Classical in
noncomputable def Zkp (s : ByteArray) : Option PtrD := if h : ∃ p : PtrD, p.ok = true ∧ Z4 p = s then some h.choose else none
theorem ZdZ {s : ByteArray} {p : PtrD} (hp : p.ok = true) (h : Z4 p = s) : Zkp s = some p := by
 have he : ∃ p : PtrD, p.ok = true ∧ Z4 p = s := ⟨p, hp, h⟩;unfold Zkp;rw [dif_pos he];have hc := he.choose_spec;rw [ZbP hc.1 hp (hc.2.trans h.symm)]
theorem ZnA {s : ByteArray} (h : ∀ p : PtrD, p.ok = true → Z4 p = s → False) : Zkp s = none := by
 unfold Zkp;rw [dif_neg fun ⟨p, hp, hs⟩ => h p hp hs]
noncomputable def UB (y : ByteArray) : PtrD := (Zkp y).getD PtrD.zero
theorem Zgg (y : ByteArray) (w0 : World) (hs : y.size ≤ 1000000) : Calls prog 40 #[.string y] w0 fun e w' => e = .returned (.tuple #[.agg #[.int .i64 ((UB y).aC), .int .i64 ((UB y).al), .int .i64 ((UB y).am), .int .i64 ((UB y).aB), .int .i64 ((UB y).aq)], .bool (Zkp y).isSome]) ∧ Below w0.heap.size w0 w' := by
 refine (VZ y w0 hs).mono ?_;rintro e w' (⟨p, hp, ht, rfl, hb⟩ | ⟨hn, rfl, hb⟩)
 ·exact ⟨by unfold UB; rw [ZdZ hp ht]; rfl, hb⟩
 ·exact ⟨by unfold UB; rw [ZnA hn]; rfl, hb⟩
theorem XJ (s : ByteArray) (w0 : World) (hs : s.size ≤ 1000000) : Calls prog 14 #[.string s] w0 fun e w' => (∃ n : Zb, n.ok = true ∧ ZY n = s ∧ e = .returned (.tuple #[nV n, .bool true]) ∧ Below w0.heap.size w0 w') ∨ ((∀ n : Zb, n.ok = true → ZY n = s → False) ∧ e = .returned (.tuple #[ZgV, .bool false]) ∧ Below w0.heap.size w0 w') := by
 have E := Bx.mk (St.start w0);refine ent func14 ntmps14 ?_;refine xsr ?_;refine yal z10 E ?_;clear E;intro w1 b1 E;refine xr 1 rfl<|xne<|xsr<|xr 1 rfl ?_;refine yc (ZbV s _ (by omega)) func38 ?_;rintro _ w2 (⟨xs, hrec, hsz, ao, cp, rfl, hs1⟩ | ⟨hno, ae, rfl, hb⟩);refine ⟨_, rfl, ?_⟩; replace E := E.ad hs1;clear hs1;refine xr 5 rfl<|xne<|xsq<|xsr<|xr 4 rfl<|xy rfl (vn 9 1 rfl)<|xr 2 rfl<|xne<|xcn 18 rfl (fun _ dcc1=>?_) fun _ dcc1=>?_;refine xct rfl<|xsr<|xy rfl (vb z10 rfl) ?_;refine yst E 1 ?_;clear E;intro w3 E;replace E:=E.nm;refine xr 1 rfl<|xne<|xre<|xtr ?_;intro a J;refine Zw J results14 (J.resBox rfl (E.o.box 1 rfl) (by kernel_rfl)) (J.res rfl) ?_;refine .inr ⟨fun x hx hxs => ?_, rfl, E.o.bel⟩;have hl6 := YM hx; rw [hxs] at hl6; have hx2 := YB x; rw [hxs] at hx2; have hsm := (Xt hx).1; have k1 := hsm.links; have k2 := hsm.size; have k3 := hsm.many; have k4 := hsm.depth; have k5 := hsm.kind; have hel := YO x.aj;have hone := hrec.one hl6;rw [hone] at dcc1; exact dcc1 rfl;refine xcf rfl<|xsk<|xet<|xsq ?_;obtain ⟨y0, y1, y2, y3, y4, y5, y6, rfl⟩ := Zor (l := xs) (by omega);intro a J;replace J : Fr 83 a [(0, .string s), (2, .pointer (some ⟨b1, 0, none⟩)), (3, .bool false), (8, .string s), (10, .slice ao 7 cp), (11, .bool true), (4, .slice ao 7 cp), (5, .bool true), (12, .bool true), (13, .bool false), (14, .bool false), (15, .slice ao 7 cp), (18, .bool false)] := J.ls _;obtain ⟨g2, rfl, _, _, _, _⟩ := E.o.rowOpen 0 rfl (Nat.succ_pos _);have hcap := E.o.capLe 0 rfl;have hy0 : y0.size ≤ 2048 := by have := YD [y0, y1, y2, y3, y4, y5, y6] (k := 0) (by simp only [length_cons, length_nil]; omega); rw [hrec.is] at this; have e : ([y0, y1, y2, y3, y4, y5, y6] : List ByteArray).getD 0 ByteArray.empty = y0 := rfl; rw [e] at this; omega
 have hy1 : y1.size ≤ 2048 := by have := YD [y0, y1, y2, y3, y4, y5, y6] (k := 1) (by simp only [length_cons, length_nil]; omega); rw [hrec.is] at this; have e : ([y0, y1, y2, y3, y4, y5, y6] : List ByteArray).getD 1 ByteArray.empty = y1 := rfl; rw [e] at this; omega
 have hy2 : y2.size ≤ 2048 := by have := YD [y0, y1, y2, y3, y4, y5, y6] (k := 2) (by simp only [length_cons, length_nil]; omega); rw [hrec.is] at this; have e : ([y0, y1, y2, y3, y4, y5, y6] : List ByteArray).getD 2 ByteArray.empty = y2 := rfl; rw [e] at this; omega
 have hy3 : y3.size ≤ 2048 := by have := YD [y0, y1, y2, y3, y4, y5, y6] (k := 3) (by simp only [length_cons, length_nil]; omega); rw [hrec.is] at this; have e : ([y0, y1, y2, y3, y4, y5, y6] : List ByteArray).getD 3 ByteArray.empty = y3 := rfl; rw [e] at this; omega
 have hy4 : y4.size ≤ 2048 := by have := YD [y0, y1, y2, y3, y4, y5, y6] (k := 4) (by simp only [length_cons, length_nil]; omega); rw [hrec.is] at this; have e : ([y0, y1, y2, y3, y4, y5, y6] : List ByteArray).getD 4 ByteArray.empty = y4 := rfl; rw [e] at this; omega
 have hy5 : y5.size ≤ 2048 := by have := YD [y0, y1, y2, y3, y4, y5, y6] (k := 5) (by simp only [length_cons, length_nil]; omega); rw [hrec.is] at this; have e : ([y0, y1, y2, y3, y4, y5, y6] : List ByteArray).getD 5 ByteArray.empty = y5 := rfl; rw [e] at this; omega
 have hy6 : y6.size ≤ 2048 := by have := YD [y0, y1, y2, y3, y4, y5, y6] (k := 6) (by simp only [length_cons, length_nil]; omega); rw [hrec.is] at this; have e : ([y0, y1, y2, y3, y4, y5, y6] : List ByteArray).getD 6 ByteArray.empty = y6 := rfl; rw [e] at this; omega
 revert a;refine xrl<|xy rfl (vb z10 rfl) ?_;refine yal z10 E ?_;clear E;intro w4 b3 E;refine yst E 0 ?_;clear E;intro w5 E;replace E:=E.nm;refine xne<|xsr<|xr 1 rfl<|xy rfl (vx 9 0 1 rfl)<|xy rfl (ve Zf E.o 1 0 rfl rfl rfl rfl) ?_;refine ycB (Qe y0 _ (by omega)) func39 E ?_;clear E;intro w6 E;refine xr 3 rfl<|Xf 0 rfl ?_;refine ysF 0 E ?_;clear E;intro w7 E;replace E:=E.nm;refine xne<|xsr<|xr 1 rfl<|xy rfl (vx 9 1 1 rfl)<|xy rfl (ve Zf E.o 1 1 rfl rfl rfl rfl) ?_;refine ycB (Qe y1 _ (by omega)) func39 E ?_;clear E;intro w8 E;refine xr 3 rfl<|Xf 1 rfl ?_;refine ysF 0 E ?_;clear E;intro w9 E;replace E:=E.nm;refine xne<|xsr<|xr 1 rfl<|xy rfl (vx 9 2 1 rfl)<|xy rfl (ve Zf E.o 1 2 rfl rfl rfl rfl) ?_;refine ycB (Qe y2 _ (by omega)) func39 E ?_;clear E;intro w10 E;refine xr 3 rfl<|Xf 2 rfl ?_;refine ysF 0 E ?_;clear E;intro w11 E;replace E:=E.nm;refine xne<|xsr<|xr 1 rfl<|xy rfl (vx 9 3 1 rfl)<|xy rfl (ve Zf E.o 1 3 rfl rfl rfl rfl) ?_;refine ycB (Zgg y3 _ (by omega)) func40 E ?_;clear E;intro w12 E;refine xr 3 rfl<|Xf 3 rfl<|Xf 0 rfl ?_;intro a J;refine ZZ rfl rfl rfl (J.ev rfl) (J.ev rfl) E.o 0 rfl (by kernel_rfl) rfl (by kernel_rfl) (rs := [.int .i64 (Xx y0), .int .i64 (Xx y1), .int .i64 (Xx y2), .int .i64 ((UB y3).aC), .int .i64 ((UB y3).al), .int .i64 ((UB y3).am), .int .i64 ((UB y3).aB), .int .i64 ((UB y3).aq), .int .i64 0, .int .i64 0]) rfl ?_; clear E; intro w13 E; replace E := Bx.mk E;replace E:=E.nm;revert a;refine xne<|xsr<|xr 1 rfl<|xy rfl (vx 9 4 1 rfl)<|xy rfl (ve Zf E.o 1 4 rfl rfl rfl rfl) ?_;refine ycB (Qe y4 _ (by omega)) func39 E ?_;clear E;intro w14 E;refine xr 3 rfl<|Xf 3 rfl<|Xf 5 rfl ?_;refine ysF 0 E ?_;clear E;intro w15 E;replace E:=E.nm;refine xne<|xsr<|xr 1 rfl<|xy rfl (vx 9 5 1 rfl)<|xy rfl (ve Zf E.o 1 5 rfl rfl rfl rfl) ?_;refine ycB (Qe y5 _ (by omega)) func39 E ?_;clear E;intro w16 E;refine xr 3 rfl<|Xf 3 rfl<|Xf 6 rfl ?_;refine ysF 0 E ?_;clear E;intro w17 E;replace E:=E.nm;refine xne<|xsq<|xsr<|Xw 0 10 E rfl rfl ?_;refine ycB (J4 (⟨Xx y0, Xx y1, Xx y2, ⟨UB y3, Xx y4, Xx y5⟩⟩ : Zb) _) func8 E ?_;clear E;intro w18 E;refine xr 2 rfl<|xcs 75 rfl (fun cc2=>?_) fun cc2=>?_;refine xr 5 rfl<|xne<|xct rfl<|xsr<|xy rfl (vb z10 rfl) ?_;refine yst E 2 ?_;clear E;intro w19 E;replace E:=E.nm;refine xr 1 rfl<|xne<|xre<|xtr ?_;intro a J;refine Zw J results14 (J.resBox rfl (E.o.box 2 rfl) (by kernel_rfl)) (J.res rfl) ?_;refine .inr ⟨fun x hx hxs => ?_, rfl, E.o.bel⟩;have hl6 := YM hx; rw [hxs] at hl6; have hx2 := YB x; rw [hxs] at hx2; have hsm := (Xt hx).1; have k1 := hsm.links; have k2 := hsm.size; have k3 := hsm.many; have k4 := hsm.depth; have k5 := hsm.kind; have hel := YO x.aj;have hone := hrec.one hl6;simp only [Xs, List.cons.injEq, and_true] at hone; obtain ⟨z0, z1, z2, z3, z4, z5, _⟩ := hone;have e3 : (⟨Xx y0, Xx y1, Xx y2, ⟨UB y3, Xx y4, Xx y5⟩⟩ : Zb) = x := by rw [z0, z1, z2, z3, z4, z5, X1 (by omega), X1 (by omega), X1 (by omega), X1 (by omega), X1 (by omega), show UB (Z4 x.ah.af) = x.ah.af from by unfold UB; rw [ZdZ (Zb.ok_is hx).root rfl]; rfl]
 rw [e3] at cc2; simp [hx] at cc2;refine Xw 0 10 E rfl rfl ?_;refine VJ (Jr (⟨Xx y0, Xx y1, Xx y2, ⟨UB y3, Xx y4, Xx y5⟩⟩ : Zb) _) func11 E ?_;clear E;intro w20 E;refine xr 1 rfl<|xy rfl (fun a J=>Xk rfl (J.ev rfl) (J.ev rfl))<|xr 1 rfl<|xne<|xcs 80 rfl (fun cc3=>?_) fun cc3=>?_;refine xct rfl<|xsr<|xy rfl (vb z10 rfl) ?_;refine yst E 2 ?_;clear E;intro w21 E;replace E:=E.nm;refine xr 1 rfl<|xne<|xre<|xtr ?_;intro a J;refine Zw J results14 (J.resBox rfl (E.o.box 2 rfl) (by kernel_rfl)) (J.res rfl) ?_;refine .inr ⟨fun x hx hxs => ?_, rfl, E.o.bel⟩;have hl6 := YM hx; rw [hxs] at hl6; have hx2 := YB x; rw [hxs] at hx2; have hsm := (Xt hx).1; have k1 := hsm.links; have k2 := hsm.size; have k3 := hsm.many; have k4 := hsm.depth; have k5 := hsm.kind; have hel := YO x.aj;have hone := hrec.one hl6;simp only [Xs, List.cons.injEq, and_true] at hone; obtain ⟨z0, z1, z2, z3, z4, z5, _⟩ := hone;have e3 : (⟨Xx y0, Xx y1, Xx y2, ⟨UB y3, Xx y4, Xx y5⟩⟩ : Zb) = x := by rw [z0, z1, z2, z3, z4, z5, X1 (by omega), X1 (by omega), X1 (by omega), X1 (by omega), X1 (by omega), show UB (Z4 x.ah.af) = x.ah.af from by unfold UB; rw [ZdZ (Zb.ok_is hx).root rfl]; rfl]
 rw [e3, hxs] at cc3; simp [hx] at cc3;refine xcf rfl<|xsk<|xet<|xsr<|Xw 0 10 E rfl rfl ?_;refine yst E 2 ?_;clear E;intro w22 E;replace E:=E.nm;refine xr 1 rfl<|xne<|xre ?_;intro a J;refine Zw J results14 (J.resBox rfl (E.o.box 2 rfl) (by kernel_rfl)) (J.res rfl) ?_;exact .inl ⟨(⟨Xx y0, Xx y1, Xx y2, ⟨UB y3, Xx y4, Xx y5⟩⟩ : Zb), by simpa using cc2, ZN (by simpa using cc3), rfl, E.o.bel⟩;refine ⟨_, rfl, ?_⟩; replace E := Bx.mk (E.o.later hb);clear hb;refine xr 5 rfl<|xne<|xsq<|xsr<|xr 7 rfl<|xne<|xct rfl<|xsr<|xy rfl (vb z10 rfl) ?_;refine yst E 0 ?_;clear E;intro w23 E;replace E:=E.nm;refine xr 1 rfl<|xne<|xre<|xtr ?_;intro a J;refine Zw J results14 (J.resBox rfl (E.o.box 0 rfl) (by kernel_rfl)) (J.res rfl) ?_;refine .inr ⟨fun x hx hxs => ?_, rfl, E.o.bel⟩;have hl6 := YM hx; rw [hxs] at hl6; have hx2 := YB x; rw [hxs] at hx2; have hsm := (Xt hx).1; have k1 := hsm.links; have k2 := hsm.size; have k3 := hsm.many; have k4 := hsm.depth; have k5 := hsm.kind; have hel := YO x.aj;exact hno _ hl6 (by omega)
def X2 (n : Nat) : ByteArray := ⟨(replicate n (0 : UInt8)).toArray⟩
theorem ZQ (n : Nat) : (X2 n).size = n := by rw [Zh]; simp [X2]
def longN (size : Int) (k : Nat) : Nat := (min 12 (size - (k : Int) * 12)).toNat
theorem Zmc (size : Int) (k : Nat) : longN size k ≤ 12 := by unfold longN; omega
def V5 (s : ByteArray) : Bool := s.data.toList.getLast? == some 0
theorem Zmd {o : Option ByteArray} (a b : ByteArray) : (o.map (b ++ ·)).map (a ++ ·) = o.map ((a ++ b) ++ ·) := by
 cases o
 ·rfl
 ·simp only [Option.map_some, Option.some.injEq]
  exact (Zfi _ _ _).symm
theorem Zkq {s : ByteArray} (h : ¬ 0 < s.size) : V5 s = false := by
 unfold V5;rw [List.eq_nil_of_length_eq_zero (l := s.data.toList) (by rw [← Zh]; omega)]; rfl
theorem Zfm {s : ByteArray} (h : 0 < s.size) : V5 s = ((((s.get! (s.size - 1)).toNat : Nat) : Int) == 0) := by
 unfold V5;rw [List.getLast?_eq_getElem?, ← Zh, Q1 (by omega)]
 by_cases e : s.get! (s.size - 1) = 0
 ·rw [e]; rfl
 ·rw [beq_eq_false_iff_ne.2 fun x => e (Option.some.inj x)]
  refine (beq_eq_false_iff_ne.2 fun x => e ?_).symm;have : (s.get! (s.size - 1)).toNat = 0 := by omega
  exact UInt8.toNat_inj.1 this
def Zdj (s : ByteArray) : ByteArray := ⟨(s.data.toList.reverse.dropWhile (· == 0)).reverse.toArray⟩
theorem Zfn {s : ByteArray} (h : V5 s = false) : Zdj s = s := by
 apply Yx
 show (s.data.toList.reverse.dropWhile (· == 0)).reverse = s.data.toList;unfold V5 at h;rcases List.eq_nil_or_concat s.data.toList with e | ⟨r, b, e⟩
 ·rw [e]; rfl
 ·rw [e, List.concat_eq_append, List.getLast?_concat] at h
  have hb : b ≠ 0 := fun x => by rw [x] at h; exact absurd h (by decide)
  rw [e, List.concat_eq_append, List.reverse_append, List.reverse_singleton, List.singleton_append, List.dropWhile_cons, if_neg (by simpa using hb), List.reverse_cons, List.reverse_reverse]
theorem Zkr {s : ByteArray} (h : V5 s = true) : Zdj (s.extract 0 (s.size - 1)) = Zdj s := by
 unfold Zdj
 congr 3
 rw [Yd, drop_zero, Nat.sub_zero, Zh, ← List.dropLast_eq_take];unfold V5 at h;rcases List.eq_nil_or_concat s.data.toList with e | ⟨r, b, e⟩
 ·rw [e] at h; cases h
 ·rw [e, List.concat_eq_append, List.getLast?_concat] at h
  obtain rfl : b = 0 := by simpa using h
  rw [e, List.concat_eq_append, List.dropLast_concat, List.reverse_append, List.reverse_singleton, List.singleton_append, List.dropWhile_cons]; rfl
theorem Zks (s : ByteArray) : (Zdj s).size ≤ s.size := by
 rw [Zh, Zh];show ((s.data.toList.reverse.dropWhile (· == 0)).reverse).length ≤ _;rw [List.length_reverse];have : ∀ l : List UInt8, (l.dropWhile (· == 0)).length ≤ l.length := fun l => by
  induction l with
  | nil => exact Nat.le_refl _
  | cons a r ih => rw [List.dropWhile_cons]; split <;> simp only [length_cons] <;> omega
 exact Nat.le_trans (this _) (by rw [List.length_reverse]; exact Nat.le_refl _)
theorem Xm {st : Za} (h : st.ok = true) : Xv st := by
 have ho := Za.ok_spec h;refine ⟨ho.rows, fun i => ?_⟩
 by_cases hi : i < 64
 ·have := Zah ho.each hi
  unfold QI at this;rw [Bool.and_eq_true] at this;have := of_decide_eq_true this.1
  omega
 ·rw [getD_eq_getElem?_getD, List.getElem?_eq_none (by rw [ho.rows]; omega)]
  exact Nat.zero_le _
def Zo (x : List PtrD) : List PtrD := x ++ replicate (16 - x.length) PtrD.zero
theorem UQ {x : List PtrD} (h : x.length ≤ 16) : (Zo x).length = 16 := by unfold Zo; rw [length_append, List.length_replicate]; omega
theorem ZbW {x : List PtrD} (h : ∀ p ∈ x, p.ok = true) : ∀ p ∈ Zo x, p.ok = true := fun p hp => by
 rcases mem_append.1 hp with hp | hp
 ·exact h p hp
 ·rw [List.eq_of_mem_replicate hp]; rfl
theorem ZeN (a0 : Option Addr) (c0 : Nat) (a1 : Option Addr) (c1 : Nat) (a2 : Option Addr) (c2 : Nat) (a4 : Option Addr) (c4 : Nat) (a6 : Option Addr) (c6 : Nat) (st : Za) (t : Ze) {x : List PtrD} (hx : downL (kidsS st) (depthN t.ai) [t.af] = some x) (hdep : t.aw = ((depthN t.ai : Nat) : Int)) (hxl : x.length ≤ 16) (w0 : World) (hR : Rd Zu 1 w0 a0 st.ac.length st.ac) (hrow : Xv st) : Calls prog 132 #[.agg #[.slice a0 st.ac.length c0, .slice a1 st.aa.ag.length c1, .slice a2 st.aa.au.length c2, .int .i64 st.av, .slice a4 st.ak.length c4, .int .i64 st.az, .slice a6 st.ar.length c6, .bool st.aA], .agg #[.int .i64 t.af.aC, .int .i64 t.af.al, .int .i64 t.af.am, .int .i64 t.af.aB, .int .i64 t.af.aq, .int .i64 t.aw, .int .i64 t.ai]] w0 fun e w' => ∃ ao cp, e = .returned (.tuple #[.slice ao x.length cp, .bool true]) ∧ St w0 [Zg PtrD.cells 5 24 (.slice ao x.length cp) x] w' := by
 refine (ZbU a0 c0 a1 c1 a2 c2 a4 c4 a6 c6 st t hdep w0 hR hrow).mono ?_;rintro e w' (⟨l, h, ao, cp, he, hs⟩ | ⟨h, _⟩)
 ·rw [hx] at h
  obtain rfl := Option.some.inj h;exact ⟨ao, cp, he, hs⟩
 ·rw [hx] at h; cases h
theorem Vi (a0 : Option Addr) (c0 : Nat) (a1 : Option Addr) (c1 : Nat) (a2 : Option Addr) (c2 : Nat) (a4 : Option Addr) (c4 : Nat) (a6 : Option Addr) (c6 : Nat) (st : Za) (t : Ze) {x : List PtrD} (hx : downL (kidsS st) (depthN t.ai) [t.af] = some x) (hdep : t.aw = ((depthN t.ai : Nat) : Int)) (hxl : x.length ≤ 16) (w0 : World) (hR : Rd Zu 1 w0 a0 st.ac.length st.ac) (hrow : Xv st) : Calls prog 95 #[sV a0 c0 a1 c1 a2 c2 a4 c4 a6 c6 st, tV t] w0 fun e w' => ∃ ao cp, e = .returned (.slice ao (Zo x).length cp) ∧ St w0 [Zg PtrD.cells 5 24 (.slice ao (Zo x).length cp) (Zo x)] w' := by
 have HR := Bx.mk hR; clear hR;have E := Bx.mk (St.start w0);refine ent func95 ntmps95 ?_;refine xsr ?_;refine ybx E ?_;clear E;intro w1 b1 E;refine ybx E ?_;clear E;intro w2 b2 E;refine xr 1 rfl<|xne<|xsr<|Xw 1 8 E rfl rfl<|Xw 0 7 E rfl rfl ?_;refine yc (ZeN a0 c0 a1 c1 a2 c2 a4 c4 a6 c6 st t hx hdep hxl _ (HR.out.below E.o.bel) hrow) func132 ?_;rintro _ w3 ⟨ao, cp, rfl, hs⟩;refine ⟨_, rfl, ?_⟩; replace E := E.ad hs;clear hs;refine xr 5 rfl<|xne<|xsr ?_;refine yem 24 5 E ?_;clear E;intro w4 b3 E;refine xr 1 rfl ?_;replace E := Bx.mk (E.o.nilRow PtrD.cells 5 24 (some ⟨b3, 0, none⟩));intro a J;refine XE rfl J rfl rfl rfl (J.ev rfl) (J.ev rfl) Xu PtrD.cells_len E.o 0 (xs := []) rfl (ys := x) (St.rdOf E.o PtrD.cells_len 1 rfl) (Zz _) (by unfold maxLen; (try simp only [length_append, length_cons, length_nil, nil_append, length_map, List.length_replicate]); omega) (by (try simp only [length_append, length_cons, length_nil, nil_append, length_map, List.length_replicate]); omega) ?_; clear J E a; intro ao5 cp6 w5 a J E; replace E := Bx.mk E;revert a;refine xr 1 rfl<|xy rfl (vn 24 5 rfl)<|xy rfl (fun a J=>ZO (r := ((16 - x.length : Nat) : Int)) rfl (J.ev rfl) (J.ev rfl) ((Yi (by omega)).trans (by omega))) ?_;refine yc (Uo (16 - x.length) (by omega) _) func133 ?_;rintro _ w6 ⟨ao7, cp7, rfl, hs⟩;refine ⟨_, rfl, ?_⟩;replace E := E.ad hs;clear hs;intro a J;refine XE rfl J rfl rfl rfl (J.ev rfl) (J.ev rfl) Xu PtrD.cells_len E.o 1 (xs := ([]) ++ x) rfl (ys := replicate (16 - x.length) PtrD.zero) (St.rdN E.o PtrD.cells_len 0 rfl) (Zz _) (by unfold maxLen; (try simp only [length_append, length_cons, length_nil, nil_append, length_map, List.length_replicate]); omega) (by (try simp only [length_append, length_cons, length_nil, nil_append, length_map, List.length_replicate]); omega) ?_; clear J E a; intro ao8 cp9 w7 a J E; replace E := Bx.mk E;revert a;refine xr 1 rfl<|xne<|xre<|xb1 results95 rfl ?_;have hwl : ([] ++ x).length + (replicate (16 - x.length) PtrD.zero).length = (Zo x).length := (length_append ..).symm; rw [hwl] at E ⊢;exact ⟨_, _, rfl, (E.o.erS [4,3,2,0])⟩
theorem Zd0 {st : Za} {l : List PtrD} {k : Nat} (h : k < l.length) : (l.take k).map (Zn st) ++ [Zn st (l.getD k PtrD.zero)] = (l.take (k + 1)).map (Zn st) := by
 rw [List.take_succ_eq_append_getElem h, List.map_append, getD_eq_getElem?_getD, getElem?_eq_getElem h]; rfl
def Zgh (st : Za) (t : Ze) (x : List PtrD) : List ByteArray := ((Zo x).take t.ai.toNat).map (Zn st)
theorem Zhr (a0 : Option Addr) (c0 : Nat) (a1 : Option Addr) (c1 : Nat) (a2 : Option Addr) (c2 : Nat) (a4 : Option Addr) (c4 : Nat) (a6 : Option Addr) (c6 : Nat) (st : Za) (t : Ze) {x : List PtrD} (hx : downL (kidsS st) (depthN t.ai) [t.af] = some x) (hdep : t.aw = ((depthN t.ai : Nat) : Int)) (hxl : x.length ≤ 16) (hxok : ∀ p ∈ x, p.ok = true) (hm : 0 ≤ t.ai ∧ t.ai ≤ 16) (w0 : World) (hR : Rd Zu 1 w0 a0 st.ac.length st.ac) (hrow : Xv st) : Calls prog 70 #[sV a0 c0 a1 c1 a2 c2 a4 c4 a6 c6 st, tV t] w0 fun e w' => ∃ ao cp, e = .returned (.slice ao (Zgh st t x).length cp) ∧ St w0 [Zg Zu 1 9 (.slice ao (Zgh st t x).length cp) (Zgh st t x)] w' := by
 have HR := Bx.mk hR; clear hR;have E := Bx.mk (St.start w0);refine ent func70 ntmps70 ?_;refine xsr ?_;refine ybx E ?_;clear E;intro w1 b1 E;refine ybx E ?_;clear E;intro w2 b2 E;refine xr 1 rfl<|xne<|xsr ?_;refine yem 9 1 E ?_;clear E;intro w3 b3 E;refine xr 1 rfl<|xne<|xsr<|Xw 1 8 E rfl rfl<|Xw 0 7 E rfl rfl ?_;refine yc (Vi a0 c0 a1 c1 a2 c2 a4 c4 a6 c6 st t hx hdep hxl _ (HR.out.below E.o.bel) hrow) func95 ?_;rintro _ w4 ⟨ao4, cp4, rfl, hs⟩;refine ⟨_, rfl, ?_⟩;replace E := E.ad hs;clear hs;refine xr 1 rfl<|xne<|xsq<|xsq ?_;have hwl := UQ hxl; have hwok := ZbW hxok;refine xrl<|xr 1 rfl<|xne<|xbl ?_;replace E := Bx.mk (E.o.nilRow Zu 1 9 (some ⟨b3, 0, none⟩));intro a J;refine Zt (ι := Nat) (fun k a w => ∃ (ao : Option Addr) (cp : Nat) (xs : List ByteArray), (k ≤ t.ai.toNat ∧ xs = ((Zo x).take k).map (Zn st)) ∧ Fr 34 a [(2, .pointer (some ⟨b1, 0, none⟩)), (3, .pointer (some ⟨b2, 0, none⟩)), (6, .slice ao4 ((Zo x).length) cp4), (5, .slice ao xs.length cp), (7, .int .i64 (k : Int))] ∧ St w0 ([Zg Zu 1 9 (.slice ao xs.length cp) xs, Zg PtrD.cells 5 24 (.slice ao4 ((Zo x).length) cp4) (Zo x), boxA b2 7 26 (tV t), boxA b1 8 44 (sV a0 c0 a1 c1 a2 c2 a4 c4 a6 c6 st)]) w) (fun k => t.ai.toNat - k) 0 ⟨_, _, [], ⟨Nat.zero_le _, rfl⟩, J.ls _, E.o⟩ ?_;clear J E; clear a;rintro k a w5 ⟨ao, cp, xs, ⟨hk, hq⟩, J, E⟩;replace E := Bx.mk E;have hxl : xs.length = k := by rw [hq]; simp; omega
 revert a;refine xsq<|xsr<|xr 1 rfl<|Xf 6 rfl<|Xl 2 E rfl rfl<|xr 1 rfl<|xne<|xcd 17 rfl (fun _ dcc1=>?_) fun _ dcc1=>?_
 refine xct rfl<|xsk<|xet<|xsq<|xbl<|xsq ?_;obtain ⟨g5, rfl, _, _, _, _⟩ := E.o.rowOpen 1 rfl (by omega);intro a J;refine Yf (by kernel_rfl) (by kernel_rfl) E.o ?_;revert a;refine Qw 3 8 rfl rfl<|xqr 2 rfl<|xq rfl (fun E=>vx 24 k 5 rfl)<|xq rfl (fun E a J=>ylr (cs := pL ((Zo x).getD k PtrD.zero)) rfl (J.ev rfl) (E.elem PtrD.cells_len 1 rfl (Zi (xs := Zo x) (j := k) (d := PtrD.zero) (by omega)))) ?_;refine yq (fun _ E => (J3 a0 c0 a1 c1 a2 c2 a4 c4 a6 c6 st ((Zo x).getD k PtrD.zero) _ (HR.out.below E.bel) hrow (hwok _ (YN (by omega))))) func96 ?_;refine xqr 5 rfl ?_;intro a J;refine wpQuiet_nil ?_; intro w6 E; replace E := Bx.mk E;revert a;refine xet<|xrl<|xr 2 rfl ?_;refine ybs Zu 9 1 [Zn st ((Zo x).getD k PtrD.zero)] E ?_;clear E;intro b6 w7 E;refine yap Y3 Zf E 1 (St.rdN E.o Zf 0 rfl) (Zv _) ?_;clear E;intro ao7 cp8 w8 E;refine xr 1 rfl<|xni<|xeb<|xet<|xrl<|xr 1 rfl<|xy rfl (vad rfl)<|xr 1 rfl<|xne ?_;have hz : xs.length + ([Zn st ((Zo x).getD k PtrD.zero)]).length = (xs ++ ([Zn st ((Zo x).getD k PtrD.zero)])).length := (length_append ..).symm;intro a J;rw [hz] at E J;have hnext : xs ++ ([Zn st ((Zo x).getD k PtrD.zero)]) = ((Zo x).take (k + 1)).map (Zn st) := by rw [hq]; exact Zd0 (by omega)
 replace E:=E.pks [4,4,4,4];exact ⟨k + 1, ⟨_, _, xs ++ ([Zn st ((Zo x).getD k PtrD.zero)]), ⟨by omega, hnext⟩, J.less _ ⟨rfl, rfl, rfl, rfl, rfl, trivial⟩, (E.o.erase 4)⟩, (by omega)⟩;refine xcf rfl<|xex<|xtx<|xtx<|xbh<|xet<|xsr<|xr 2 rfl<|xne<|xre<|xb1 results70 rfl ?_;obtain rfl : k = t.ai.toNat := by omega
 subst hq;exact ⟨_, _, rfl, (E.o.erS [3,2,1])⟩
theorem Zhs (size : Int) (k : Nat) (w0 : World) (hk : k ≤ 16) (hs : 12 * (k : Int) ≤ size ∧ size ≤ 1000000) : Calls prog 189 #[.int .i64 size, .int .i64 (k : Int)] w0 fun e w' => e = .returned (.int .i64 (longN size k : Int)) ∧ Below w0.heap.size w0 w' := by
 have E := Bx.mk (St.start w0);refine ent func189 ntmps189 ?_;refine xsr<|xr 1 rfl<|xne<|xsr<|xr 2 rfl<|xy rfl (fun a J=>Y8 rfl (J.ev rfl) (J.ev rfl) (Yi (by omega)))<|xy rfl (fun a J=>ZO rfl (J.ev rfl) (J.ev rfl) (Yi (by omega)))<|xy rfl (fun a J=>Zjm rfl (J.ev rfl) (J.ev rfl))<|xr 1 rfl<|xne<|xre<|xb1 results189 rfl ?_;exact ⟨by show Ending.returned (.int .i64 _) = Ending.returned (.int .i64 _); unfold longN; congr 2; omega, E.o.bel⟩
theorem ZiG (s : ByteArray) (w0 : World) (hs : s.size ≤ 1000000) : Calls prog 190 #[.string s] w0 fun e w' => e = .returned (.string (Zdj s)) ∧ Below w0.heap.size w0 w' := by
 have E := Bx.mk (St.start w0);refine ent func190 ntmps190 ?_;refine xsr<|xr 1 rfl<|xne<|xsq<|xbl ?_;intro a J;refine Zt (ι := ByteArray) (fun r a w => (Zdj r = Zdj s ∧ r.size ≤ 1000000) ∧ Fr 20 a [(0, .string r)] ∧ St w0 ([]) w) (fun r => r.size) s ⟨⟨rfl, hs⟩, J.ls _, E.o⟩ ?_;clear J E; clear a;rintro r a w1 ⟨⟨hcz, hrs⟩, J, E⟩;replace E := Bx.mk E;revert a;refine xsq<|xsr<|xr 1 rfl<|xy rfl (fun a J=>ZM rfl (J.ev rfl) (by kernel_rfl))<|xr 2 rfl<|xcd 6 rfl (fun _ dcc1=>?_) fun _ dcc1=>?_
 refine xr 2 rfl<|xy rfl (fun a J=>ZM rfl (J.ev rfl) (by kernel_rfl))<|xy rfl (fun a J=>ZO (r := ((r.size - 1 : Nat) : Int)) rfl (J.ev rfl) (J.ev rfl) ((Yi (by omega)).trans (by omega)))<|xy rfl (fun a J=>YQ (i := (r.size - 1)) rfl (J.ev rfl) (J.ev rfl) (by kernel_rfl) (by omega) (by omega))<|xr 2 rfl<|xne<|xce 13 rfl (fun cc2 dcc2=>?_) fun cc2 dcc2=>?_;refine xct rfl<|xsk<|xet<|xbl<|xrl<|xr 2 rfl<|xy rfl (fun a J=>ZM rfl (J.ev rfl) (by kernel_rfl))<|xy rfl (fun a J=>ZO (r := ((r.size - 1 : Nat) : Int)) rfl (J.ev rfl) (J.ev rfl) ((Yi (by omega)).trans (by omega)))<|xy rfl (fun a J=>XY (k := (r.size - 1)) rfl (J.ev rfl) (J.ev rfl) (by kernel_rfl) (by omega) (by omega))<|xr 1 rfl<|xni<|xeb<|xet ?_;have hlz : V5 r = true := by rw [Zfm (by omega)]; exact cc2
 have hes : (r.extract 0 (r.size - 1)).size = r.size - 1 := by rw [size_extract]; omega
 intro a J;exact ⟨(r.extract 0 (r.size - 1)), ⟨⟨(Zkr hlz).trans hcz, by omega⟩, J.less _ ⟨rfl, trivial⟩, E.o⟩, (by omega)⟩;refine xcf rfl<|xex<|xtx<|xtx<|xbh<|xet<|xsr<|xr 2 rfl<|xne<|xre<|xb1 results190 rfl ?_;have hlz : V5 r = false := by rw [Zfm (by omega)]; exact cc2
 exact ⟨by rw [← hcz, Zfn hlz], E.o.bel⟩;refine xr 7 rfl<|xne<|xcf rfl<|xex<|xtx<|xtx<|xbh<|xet<|xsr<|xr 2 rfl<|xne<|xre<|xb1 results190 rfl ?_;have hlz : V5 r = false := Zkq (by omega);exact ⟨by rw [← hcz, Zfn hlz], E.o.bel⟩
structure TreeX (st : Za) (t : Ze) (x l : List PtrD) : Prop where
  dn : downL (kidsS st) (depthN t.ai) [t.af] = some x
  dep : t.aw = ((depthN t.ai : Nat) : Int)
  x16 : x.length ≤ 16
  xok : ∀ p ∈ x, p.ok = true
  lv : leavesF st t = some l
  len : l.length = t.ai.toNat
  many : 0 ≤ t.ai ∧ t.ai ≤ 16
  tk : (Zo x).take t.ai.toNat = l
theorem treeX {st : Za} {t : Ze} {l : List PtrD} (h0 : 0 ≤ st.av) (h : leavesF st t = some l) : ∃ x, TreeX st t x l := by
 obtain ⟨x, ht, hd, hlb, hlx, hxl, hl⟩ := Za3 h;unfold topB at ht;simp only [Bool.and_eq_true, beq_iff_eq, decide_eq_true_eq] at ht;have hin := Zs ht.1;have hy := Vh (st := st) (n := depthN t.ai) (l := [t.af]) (fun p hp => by rw [mem_singleton.1 hp]; exact ht.2.2) h0;have hp4 := Zma (YV t.ai);have hx16 : x.length ≤ 16 := by rw [hxl]; exact hp4
 refine ⟨x, hy.1.trans hd, ht.2.1, hx16, fun p hp => (hy.2 x hd p hp).1, h, hl, hin, ?_⟩;have hle : t.ai.toNat ≤ x.length := by
  have := congrArg List.length hlx;rw [hl, length_take] at this
  omega
 rw [hlx];unfold Zo;rw [List.take_append_of_le_length hle]
theorem Zaw (a0 : Option Addr) (c0 : Nat) (a1 : Option Addr) (c1 : Nat) (a2 : Option Addr) (c2 : Nat) (a4 : Option Addr) (c4 : Nat) (a6 : Option Addr) (c6 : Nat) (st : Za) (t : Ze) {x l : List PtrD} (X : TreeX st t x l) (w0 : World) (hR : Rd Zu 1 w0 a0 st.ac.length st.ac) (hrow : Xv st) : Calls prog 70 #[.agg #[.slice a0 st.ac.length c0, .slice a1 st.aa.ag.length c1, .slice a2 st.aa.au.length c2, .int .i64 st.av, .slice a4 st.ak.length c4, .int .i64 st.az, .slice a6 st.ar.length c6, .bool st.aA], .agg #[.int .i64 t.af.aC, .int .i64 t.af.al, .int .i64 t.af.am, .int .i64 t.af.aB, .int .i64 t.af.aq, .int .i64 t.aw, .int .i64 t.ai]] w0 fun e w' => ∃ ao cp, e = .returned (.slice ao (l.map (Zn st)).length cp) ∧ St w0 [Zg Zu 1 9 (.slice ao (l.map (Zn st)).length cp) (l.map (Zn st))] w' := by
 have h := Zhr a0 c0 a1 c1 a2 c2 a4 c4 a6 c6 st t X.dn X.dep X.x16 X.xok X.many w0 hR hrow;unfold Zgh at h;rw [X.tk] at h;exact h
theorem Zgi {st : Za} {l : List PtrD} {k : Nat} (h : k < l.length) : (l.map (Zn st))[k]? = some (Zn st (l.getD k PtrD.zero)) := by
 rw [List.getElem?_map, getD_eq_getElem?_getD, getElem?_eq_getElem h]; rfl
theorem Zme {st : Za} {t : Ze} (h0 : 0 ≤ st.av) (h : okS st t = true) : ∃ l, leavesF st t = some l := by
 rw [Zl3 h0] at h;exact Option.isSome_iff_exists.1 h
theorem Zmf {st : Za} {t : Ze} (h0 : 0 ≤ st.av) (h : okS st t = false) : leavesF st t = none := by
 rw [Zl3 h0] at h
 cases hl : leavesF st t with
 | none => rfl
 | some l => exfalso; have h2 : (leavesF st t).isSome = false := h; rw [hl] at h2; cases h2
theorem Zbc {n : Zb} (h : n.ok = true) (hk : (n.aj == 1) = true) : 0 ≤ n.am ∧ n.am ≤ 192 ∧ n.ah.ai = (n.am + 11) / 12 := by
 have a := Zb.ok_is h;have s := a.small;have k1 : n.aj = 1 := beq_iff_eq.1 hk;have hz := s.size; have hi := s.is; have hm := a.tmany;rw [k1, ZiD] at hz hi;rw [k1] at hm
 omega
def ZbX (st : Za) (text : ByteArray) (level : Int) : Int := if st.aA && (level == 0) then ZaF st text else -1
def Qv (st : Za) (text : ByteArray) (level : Int) : Int := if ZbX st text level < 0 then Uj st.aa else ZbX st text level
def Za.mayW (st : Za) (text : ByteArray) (level : Int) : Bool := st.ok && (inB text.size 1 128 && (inB level 0 2 && decide (writeAt st text level < 64)))
def Za.wrote (st : Za) (text : ByteArray) (level : Int) : Za := if st.mayW text level then st.putAt (writeAt st text level) (st.ac.set (writeAt st text level) text) else Za.zero
def Za.wptr (st : Za) (text : ByteArray) (level : Int) : PtrD := if st.mayW text level then YY (writeAt st text level : Nat) st.av level text else PtrD.zero
theorem Qg {a b : ByteArray} (h : (a.toList == b.toList) = true) : a = b := by
 have h := eq_of_beq h;rw [ByteArray.toList_eq, ByteArray.toList_eq] at h;exact ByteArray.ext (Array.toList_inj.1 h)
section
variable {st : Za} {text : ByteArray} {level : Int}
theorem Zd1 (h : Jq st text level < 64) : ZaG st text (Jq st text level) = true := by
 unfold Jq at h ⊢
 split
 ·rename_i hs
  rw [if_pos hs] at h;exact ZdA _ 64 0 (by omega)
 ·rename_i hs
  rw [if_neg hs] at h
  omega
theorem Zmg (hok : st.ok = true) (hsz : inB text.size 1 128 = true) (hlv : inB level 0 2 = true) {i : Nat} (hi : i < 64) (hw : writeAt st text level = i) :
  st.mayW text level = true ∧ st.wrote text level = st.putAt i (st.ac.set i text) ∧ st.wptr text level = YY (i : Int) st.av level text ∧ XI (i : Int) st.av level text = true ∧ (Jq st text level < 64 → st.ac.set i text = st.ac) := by
 have hO := Za.ok_spec hok;have hP := Zq.ok_spec hO.space;have hm : st.mayW text level = true := by unfold Za.mayW; rw [hok, hsz, hlv, hw]; simp [hi]
 have h8 : 8 ≤ i := by
  by_cases hl : Jq st text level < 64
  ·have := Zd1 hl
   have e : Jq st text level = i := by unfold writeAt at hw; rw [if_pos hl] at hw; exact hw
   rw [e] at this;unfold ZaG at this;simp only [Bool.and_eq_true, decide_eq_true_eq] at this;rcases Nat.lt_or_ge i 8 with h | h
   ·have := (hP.each i hi).2.2.2.2 h; omega
   ·exact h
  ·unfold writeAt at hw
   rw [if_neg hl] at hw;have := Qi (ZbB st) 56 8
   omega
 refine ⟨hm, by unfold Za.wrote; rw [hm, hw]; rfl, by unfold Za.wptr; rw [hm, hw]; rfl, ?_, fun hl => ?_⟩
 ·have := ZlB text
  have h1 := hO.txg;have h2 := Zs hsz;have h3 := Zs hlv;unfold XI PtrD.ok YY;rw [hsz];dsimp only;rw [XU (by omega) (by omega), XU (by omega) (by omega), XU (by omega) (by omega), XU (by omega) (by omega)]
  simp
 ·have := Zd1 hl
  have e : Jq st text level = i := by unfold writeAt at hw; rw [if_pos hl] at hw; exact hw
  rw [e] at this;unfold ZaG at this;simp only [Bool.and_eq_true] at this;have h1 := Qg this.1.1.2;have hl2 : i < st.ac.length := by rw [hO.rows]; exact hi
  refine List.ext_getElem (by simp) fun j h2 h3 => ?_;rw [List.getElem_set]
  split
  ·rename_i e2
   subst e2;rw [← h1]; simp [List.getD, hl2]
  ·rfl
theorem ZoF (hok : st.ok = true) (hsz : inB text.size 1 128 = true) : (Qv st text level < 0 → writeAt st text level = 64) ∧ ∀ i : Nat, Qv st text level = i → writeAt st text level = i := by
 have hO := Za.ok_spec hok;have hP := Zq.ok_spec hO.space;have hs := Zs hsz;have hlike : ZT (ZaG st text) 64 0 = ZT (Ui st text) 56 8 := by
  have h0 : ZT (ZaG st text) (8 + 56) 0 = ZT (ZaG st text) 56 (0 + 8) := Zg2 8 56 0 fun i _ h2 => by
   have := (hP.each i (by omega)).2.2.2.2 (by omega);unfold ZaG;rw [this]; rfl
  refine h0.trans (ZbA 56 8 fun i h1 h2 => ?_);have hi : i < 64 := by omega
  have he := hP.each i hi;have hr := Zah hO.each hi;unfold ZaG Ui
  cases h3 : ((st.ac.getD i ByteArray.empty).toList == text.toList) with
  | false => cases decide (0 < st.aa.ag.getD i 0) <;> rfl
  | true =>
   have h4 := Qg h3;unfold QI at hr;simp only [Bool.and_eq_true, beq_iff_eq, decide_eq_true_eq, Bool.not_eq_true', bne_iff_ne] at hr;have h5 : st.aa.ag.getD i 0 ≠ 0 := fun h0 => by
    have hz : (st.ac.getD i ByteArray.empty).size ≠ 0 := by rw [h4]; omega
    simp_all
   have h6 : decide (0 < st.aa.ag.getD i 0) = true := decide_eq_true (by omega);rw [h6]; rfl
 have hfree : ZT (ZbB st) 56 8 = ZT (VL st.aa) 56 8 := ZbA 56 8 fun i h1 h2 => by
  have he := hP.each i (by omega);unfold ZbB VL
  by_cases h0 : st.aa.ag.getD i 0 = 0
  ·rw [h0]; rfl
  ·have h1 : decide (0 < st.aa.ag.getD i 0) = true := decide_eq_true (by omega)
   rw [h1, beq_eq_false_iff_ne.2 h0]; rfl
 have hb1 := Qi (Ui st text) 56 8;have hb2 := Qi (VL st.aa) 56 8;unfold Qv writeAt ZbX Jq ZaF Uj;rw [hlike, hfree]
 cases hsm : (st.aA && (level == 0)) with
 | true =>
  simp only [if_true];unfold Zf3
  constructor
  ·split <;> split <;> (try split) <;> omega
  ·intro i; split <;> split <;> (try split) <;> omega
 | false =>
  simp only [Bool.false_eq_true, if_false];unfold Zf3
  constructor
  ·simp; split <;> omega
  ·intro i; simp; split <;> omega
end
theorem Zif.ok {s : Zq} (h : Zif s) : s.ok = true := by
 unfold Zq.ok;simp only [Bool.and_eq_true, beq_iff_eq];refine ⟨⟨h.refs, h.last⟩, ?_⟩;unfold Jo;rw [List.all_eq_true];intro i hi;have hi := List.mem_range.1 hi;have e := h.each i hi;rw [ZeV hi];unfold ZfW;simp only [Bool.and_eq_true, Bool.or_eq_true, decide_eq_true_eq, bne_iff_ne, beq_iff_eq, Bool.not_eq_true', decide_eq_false_iff_not];refine ⟨XU (by omega) (by omega), XU (by omega) (by omega), ?_, ?_⟩
 ·by_cases h0 : s.ag.getD i 0 = 0
  ·exact .inr (e.2.2.2.1 h0)
  ·exact .inl h0
 ·by_cases h8 : i < 8
  ·exact .inl (by rw [e.2.2.2.2 h8]; exact Int.le_refl 0)
  ·exact .inr (by omega)
theorem ZfX.ok {st : Za} (h : ZfX st) : st.ok = true := by
 unfold Za.ok;simp only [Bool.and_eq_true, beq_iff_eq];exact ⟨h.rows, h.space, XU h.txg.1 h.txg.2, XU h.keep.1 h.keep.2, h.each, h.gone, h.dead, h.owed⟩
theorem Q8 {st : Za} : QJ st 64 = true ↔ ∀ i, i < 64 → (st.ac.getD i ByteArray.empty).size ≤ 128 ∧ ((st.ac.getD i ByteArray.empty).size = 0 ↔ st.aa.ag.getD i 0 = 0) ∧ st.aa.au.getD i 0 ≤ st.av := by
 constructor
 ·intro h i hi
  have := Zah h hi;unfold QI at this;simp only [Bool.and_eq_true, decide_eq_true_eq, beq_iff_eq] at this;refine ⟨this.1, ?_, this.2.2⟩;have h2 := this.2.1
  constructor
  ·intro e; rw [beq_iff_eq.2 e] at h2; exact beq_iff_eq.1 h2.symm
  ·intro e; rw [beq_iff_eq.2 e] at h2; exact beq_iff_eq.1 h2
 ·intro h
  unfold QJ;rw [List.all_eq_true];intro i hi;obtain ⟨a, b, c⟩ := h i (List.mem_range.1 hi);unfold QI;simp only [Bool.and_eq_true, decide_eq_true_eq, beq_iff_eq];refine ⟨a, ?_, c⟩;rw [Bool.eq_iff_iff];simp only [beq_iff_eq]; exact b
theorem Y1 {refs : List Int} {ps : List PtrD} : VE refs ps = true ↔ ∀ i, i < 64 → (cnt ps i : Int) ≤ refs.getD i 0 := by
 unfold VE;rw [List.all_eq_true];exact ⟨fun h i hi => by have := h i (List.mem_range.2 hi); simpa using this, fun h i hi => by have := h i (List.mem_range.1 hi); simpa using this⟩
theorem Y4 (p : PtrD) (ps : List PtrD) (i : Nat) : cnt (p :: ps) i = (if p.aC = (i : Int) then 1 else 0) + cnt ps i := by
 rw [show p :: ps = [p] ++ ps from rfl, Zj]
 congr 1
 unfold cnt
 by_cases h : p.aC = (i : Int) <;> simp [h]
theorem Jy (i : Nat) : cnt [] i = 0 := rfl
theorem ZjB {ps : List PtrD} {q : PtrD} {i : Nat} (hq : q ∈ ps) (h : q.aC = (i : Int)) : 1 ≤ cnt ps i := by
 unfold cnt;exact List.length_pos_of_mem (List.mem_filter.2 ⟨hq, by simp [h]⟩)
theorem X3 {α : Type} {xs : List α} {i j : Nat} {x d : α} (hi : i < xs.length) : (xs.set i x).getD j d = if i = j then x else xs.getD j d := by
 by_cases h : i = j
 ·subst h; rw [if_pos rfl, getD_eq_getElem?_getD, List.getElem?_set_self hi]; rfl
 ·rw [if_neg h, getD_eq_getElem?_getD, getD_eq_getElem?_getD, List.getElem?_set_ne h]
structure Inv (st : Za) (X : List PtrD) : Prop where
  ok : st.ok = true
  owes : ∀ i : Nat, 8 ≤ i → i < 64 → ((cnt X i + cnt (st.ak ++ st.ar) i : Nat) : Int) ≤ st.aa.ag.getD i 0
structure Z5 (st st' : Za) (X : List PtrD) : Prop where
  row : ∀ q ∈ X, q.ok = true → q.hole = false → Yt st' q = Yt st q
  txg : st'.av = st.av
  keep : st'.az = st.az
  same : st'.aA = st.aA
theorem Z5.refl (st : Za) (X : List PtrD) : Z5 st st X := ⟨fun _ _ _ _ => rfl, rfl, rfl, rfl⟩
theorem Z5.trans {a b c : Za} {X : List PtrD} (h : Z5 a b X) (k : Z5 b c X) : Z5 a c X :=
 ⟨fun q hq ho hh => (k.row q hq ho hh).trans (h.row q hq ho hh), k.txg.trans h.txg, k.keep.trans h.keep, k.same.trans h.same⟩
theorem Z5.mono {a b : Za} {X Y : List PtrD} (h : Z5 a b X) (hs : ∀ q ∈ Y, q ∈ X) : Z5 a b Y := ⟨fun q hq => h.row q (hs q hq), h.txg, h.keep, h.same⟩
theorem Inv.mono {st : Za} {X Y : List PtrD} (h : Inv st X) (hc : ∀ i : Nat, 8 ≤ i → i < 64 → cnt Y i ≤ cnt X i) : Inv st Y :=
 ⟨h.ok, fun i h8 hi => by have := h.owes i h8 hi; have := hc i h8 hi; omega⟩
theorem ZiH {p : PtrD} (h : p.ok = true) (hh : p.hole = false) : 8 ≤ p.aC ∧ p.aC ≤ 63 := by
 unfold PtrD.ok at h;rw [hh, Bool.false_or] at h;simp only [Bool.and_eq_true] at h;exact Zs h.1.1.1.1
theorem Zbd {q : PtrD} (ho : q.ok = true) (hh : q.hole = false) : ∃ i : Nat, 8 ≤ i ∧ i < 64 ∧ q.aC = (i : Int) := by
 obtain ⟨h1, h2⟩ := ZiH ho hh;exact ⟨q.aC.toNat, by omega, by omega, by omega⟩
theorem Inv.live {st : Za} {X : List PtrD} (h : Inv st X) {q : PtrD} (hq : q ∈ X) {i : Nat} (h8 : 8 ≤ i) (hi : i < 64) (e : q.aC = (i : Int)) : 1 ≤ st.aa.ag.getD i 0 := by
 have := h.owes i h8 hi;have := ZjB hq e
 omega
theorem Uq {st : Za} {q : PtrD} {i : Nat} (e : q.aC = (i : Int)) : Yt st q = st.ac.getD i ByteArray.empty := by unfold Yt; rw [e, Int.toNat_natCast]
section
variable {st : Za} {X : List PtrD} {text : ByteArray} {level : Int} {i : Nat}
theorem Zfo (hok : st.ok = true) (hi : i < 64) (hw : writeAt st text level = i) : 8 ≤ i ∧ (st.aa.ag.getD i 0 = 0 ∧ st.aa.au.getD i 0 = 0 ∨ 0 < st.aa.ag.getD i 0 ∧ st.ac.getD i ByteArray.empty = text ∧ st.aa.ag.getD i 0 < st.av) := by
 have hO := Za.ok_spec hok;have hP := Zq.ok_spec hO.space
 by_cases hl : Jq st text level < 64
 ·have := Zd1 hl
  have e : Jq st text level = i := by unfold writeAt at hw; rw [if_pos hl] at hw; exact hw
  rw [e] at this;unfold ZaG at this;simp only [Bool.and_eq_true, decide_eq_true_eq] at this;refine ⟨?_, .inr ⟨this.1.1.1, Qg this.1.1.2, this.2⟩⟩;rcases Nat.lt_or_ge i 8 with h | h
  ·have := (hP.each i hi).2.2.2.2 h; omega
  ·exact h
 ·unfold writeAt at hw
  rw [if_neg hl] at hw;have hb := Qi (ZbB st) 56 8;have hh := ZdA (ZbB st) 56 8 (by omega);rw [hw] at hh;unfold ZbB at hh;have h0 := (hP.each i hi).1;rw [Bool.not_eq_true'] at hh;have hz : st.aa.ag.getD i 0 = 0 := by have := of_decide_eq_false hh; omega
  exact ⟨by omega, .inl ⟨hz, (hP.each i hi).2.2.2.1 hz⟩⟩
theorem Inv.write (h : Inv st X) (hsz : inB text.size 1 128 = true) (hlv : inB level 0 2 = true) (hi : i < 64) (hw : writeAt st text level = i) :
  Inv (st.putAt i (st.ac.set i text)) (YY (i : Int) st.av level text :: X) ∧ Z5 st (st.putAt i (st.ac.set i text)) X ∧ Yt (st.putAt i (st.ac.set i text)) (YY (i : Int) st.av level text) = text := by
 obtain ⟨h8, hrow⟩ := Zfo h.ok hi hw;have hO := Za.ok_spec h.ok;have hP := Zq.ok_spec hO.space;have hs := Zs hsz;have hl0 : i < st.ac.length := by rw [hO.rows]; exact hi
 have hl1 : i < st.aa.ag.length := by rw [hP.refs]; exact hi
 have hl2 : i < st.aa.au.length := by rw [hP.last]; exact hi
 have hrefs : ∀ j : Nat, (st.putAt i (st.ac.set i text)).aa.ag.getD j 0 = if i = j then st.aa.ag.getD i 0 + 1 else st.aa.ag.getD j 0 := fun j => X3 hl1
 have hlast : ∀ j : Nat, (st.putAt i (st.ac.set i text)).aa.au.getD j 0 = if i = j then st.av else st.aa.au.getD j 0 := fun j => X3 hl2
 have hrows : ∀ j : Nat, (st.putAt i (st.ac.set i text)).ac.getD j ByteArray.empty = if i = j then text else st.ac.getD j ByteArray.empty := fun j => X3 hl0
 have hEi := hP.each i hi;have hlt : st.aa.ag.getD i 0 < st.av := by rcases hrow with ⟨e, _⟩ | ⟨_, _, e⟩ <;> have := hO.txg <;> omega
 have hO2 : ZfX (st.putAt i (st.ac.set i text)) := by
  refine ⟨by show (st.ac.set i text).length = 64; rw [length_set]; exact hO.rows, Zif.ok ⟨?_, ?_, ?_⟩, hO.txg, hO.keep, ?_, hO.gone, hO.dead, ?_⟩
  ·show (st.aa.ag.set _ _).length = 64; rw [length_set]; exact hP.refs
  ·show (st.aa.au.set _ _).length = 64; rw [length_set]; exact hP.last
  ·intro j hj
   rw [hrefs, hlast];have := hP.each j hj;have := hO.txg
   split
   ·rename_i e; subst e
    refine ⟨by omega, by omega, by omega, by omega, by omega⟩
   ·exact hP.each j hj
  ·rw [Q8]
   intro j hj;rw [hrows, hrefs, hlast];have := Q8.1 hO.each j hj
   split
   ·rename_i e; subst e
    exact ⟨by omega, ⟨by omega, by omega⟩, Int.le_refl _⟩
   ·exact this
  ·rw [Y1]
   intro j hj;rw [hrefs];have := Y1.1 hO.owed j hj;show (cnt (st.ak ++ st.ar) j : Int) ≤ _
   split
   ·rename_i e; subst e; omega
   ·exact this
 refine ⟨⟨hO2.ok, fun j h8j hj => ?_⟩, ⟨fun q hq ho hh => ?_, rfl, rfl, rfl⟩, ?_⟩
 ·rw [hrefs, Y4]
  have := h.owes j h8j hj;show ((((if (i : Int) = (j : Int) then 1 else 0) + cnt X j + cnt (st.ak ++ st.ar) j : Nat)) : Int) ≤ _
  by_cases e : i = j
  ·subst e; rw [if_pos rfl, if_pos rfl]; omega
  ·rw [if_neg (by omega), if_neg e]; omega
 ·obtain ⟨j, h8j, hj, e⟩ := Zbd ho hh
  rw [Uq e, Uq e, hrows]
  by_cases ej : i = j
  ·subst ej
   rw [if_pos rfl];rcases hrow with ⟨e0, _⟩ | ⟨_, e1, _⟩
   ·have := h.live hq h8j hj e; omega
   ·exact e1.symm
  ·rw [if_neg ej]
 ·rw [Uq (i := i) rfl, hrows, if_pos rfl]
theorem Inv.free {p : PtrD} (h : Inv st (p :: X)) (ho : p.ok = true) : Inv (st.free p) X ∧ Z5 st (st.free p) X := by
 have hO := Za.ok_spec h.ok;have hP := Zq.ok_spec hO.space
 cases hh : p.hole with
 | true =>
  rw [Zcv hh];exact ⟨h.mono fun i _ _ => by rw [Y4]; omega, Z5.refl _ _⟩
 | false =>
  obtain ⟨i, h8, hi, e⟩ := Zbd ho hh;have hown := h.owes i h8 hi;rw [Y4, if_pos e] at hown;have hone : ∀ j : Nat, cnt (p :: X) j = (if i = j then 1 else 0) + cnt X j := fun j => by
   rw [Y4, e]; congr 1; by_cases ej : i = j
   ·rw [if_pos ej, if_pos (by omega)]
   ·rw [if_neg ej, if_neg (by omega)]
  by_cases h1 : p.al ≤ st.az
  ·rw [Zcw hh h1]
   have hc : ∀ j, cnt (st.ak ++ (st.ar ++ [p])) j = cnt (st.ak ++ st.ar) j + (if i = j then 1 else 0) := fun j => by
    rw [← List.append_assoc, VD, e]; congr 1; by_cases ej : i = j
    ·rw [if_pos ej, if_pos (by omega)]
    ·rw [if_neg ej, if_neg (by omega)]
   refine ⟨⟨ZfX.ok ⟨hO.rows, hO.space, hO.txg, hO.keep, hO.each, hO.gone, ?_, ?_⟩, fun j h8j hj => ?_⟩, ⟨fun _ _ _ _ => rfl, rfl, rfl, rfl⟩⟩
   ·show (st.ar ++ [p]).all _ = true
    rw [List.all_append, hO.dead, Bool.true_and, List.all_cons, List.all_nil, Bool.and_true];unfold YI; rw [ho, hh, decide_eq_true h1]; rfl
   ·rw [Y1]; intro j hj
    show (cnt (st.ak ++ (st.ar ++ [p])) j : Int) ≤ _;rw [hc];have := Y1.1 hO.owed j hj
    split
    ·rename_i ej; subst ej; show _ ≤ st.aa.ag.getD i 0; omega
    ·exact this
   ·show (((cnt X j + cnt (st.ak ++ (st.ar ++ [p])) j : Nat)) : Int) ≤ st.aa.ag.getD j 0
    have := h.owes j h8j hj;rw [hone] at this; rw [hc]; omega
  ·by_cases h2 : p.al < st.av
   ·rw [Zcx hh h1 h2]
    have hc : ∀ j, cnt ((st.ak ++ [p]) ++ st.ar) j = cnt (st.ak ++ st.ar) j + (if i = j then 1 else 0) := fun j => by
     rw [Zj, VD, Zj, e]
     by_cases ej : i = j
     ·rw [if_pos ej, if_pos (by omega)]; omega
     ·rw [if_neg ej, if_neg (by omega)]; omega
    refine ⟨⟨ZfX.ok ⟨hO.rows, hO.space, hO.txg, hO.keep, hO.each, ?_, hO.dead, ?_⟩, fun j h8j hj => ?_⟩, ⟨fun _ _ _ _ => rfl, rfl, rfl, rfl⟩⟩
    ·show (st.ak ++ [p]).all _ = true
     rw [List.all_append, List.all_cons, List.all_nil, Bool.and_true, Bool.and_eq_true];refine ⟨hO.gone, ?_⟩;unfold YI; rw [ho, hh, decide_eq_true (by show p.al ≤ st.av - 1; omega)]; rfl
    ·rw [Y1]; intro j hj
     show (cnt ((st.ak ++ [p]) ++ st.ar) j : Int) ≤ _;rw [hc];have := Y1.1 hO.owed j hj
     split
     ·rename_i ej; subst ej; show _ ≤ st.aa.ag.getD i 0; omega
     ·exact this
    ·show (((cnt X j + cnt ((st.ak ++ [p]) ++ st.ar) j : Nat)) : Int) ≤ st.aa.ag.getD j 0
     have := h.owes j h8j hj;rw [hone] at this; rw [hc]; omega
   ·rw [Zav hh h1 h2, e, Int.toNat_natCast]
    have hl0 : i < st.ac.length := by rw [hO.rows]; exact hi
    have hl1 : i < st.aa.ag.length := by rw [hP.refs]; exact hi
    have hl2 : i < st.aa.au.length := by rw [hP.last]; exact hi
    have hrefs : ∀ j : Nat, (st.aa.give i).ag.getD j 0 = if i = j then st.aa.ag.getD i 0 - 1 else st.aa.ag.getD j 0 := fun j => X3 hl1
    have hlast : ∀ j : Nat, (st.aa.give i).au.getD j 0 = if i = j ∧ st.aa.ag.getD i 0 - 1 = 0 then 0 else st.aa.au.getD j 0 := fun j => by
     unfold Zq.give; dsimp only
     by_cases ez : st.aa.ag.getD i 0 - 1 = 0
     ·rw [if_pos ez, X3 hl2]; simp only [ez, and_true]
     ·rw [if_neg ez, if_neg fun k => ez k.2]
    have hrows : ∀ j : Nat, (Yu st.ac st.aa i).getD j ByteArray.empty = if i = j ∧ st.aa.ag.getD i 0 - 1 = 0 then ByteArray.empty else st.ac.getD j ByteArray.empty := fun j => by
     unfold Yu
     by_cases ez : st.aa.ag.getD i 0 - 1 = 0
     ·rw [if_pos ez, X3 hl0]; simp only [ez, and_true]
     ·rw [if_neg ez, if_neg fun k => ez k.2]
    have hge : 1 ≤ st.aa.ag.getD i 0 := by omega
    refine ⟨⟨ZfX.ok ⟨by show (Yu _ _ _).length = 64; rw [XF]; exact hO.rows, Zif.ok ⟨by rw [Zq.give_refs]; exact hP.refs, by rw [Zq.give_last]; exact hP.last, ?_⟩, hO.txg, hO.keep, ?_, hO.gone, hO.dead, ?_⟩, fun j h8j hj => ?_⟩, ⟨fun q hq hqo hqh => ?_, rfl, rfl, rfl⟩⟩
    ·intro j hj
     have hE := hP.each j hj;rw [hrefs, hlast]
     by_cases ej : i = j
     ·subst ej
      by_cases ez : st.aa.ag.getD i 0 - 1 = 0
      ·rw [if_pos rfl, if_pos ⟨rfl, ez⟩]; refine ⟨by omega, by omega, by omega, fun _ => rfl, by omega⟩
      ·rw [if_pos rfl, if_neg fun k => ez k.2]; refine ⟨by omega, by omega, by omega, by omega, by omega⟩
     ·rw [if_neg ej, if_neg fun k => ej k.1]; exact hE
    ·rw [Q8]
     intro j hj;have hE := Q8.1 hO.each j hj;show ((Yu st.ac st.aa i).getD j ByteArray.empty).size ≤ 128 ∧ (((Yu st.ac st.aa i).getD j ByteArray.empty).size = 0 ↔ (st.aa.give i).ag.getD j 0 = 0) ∧ (st.aa.give i).au.getD j 0 ≤ st.av;rw [hrows, hrefs, hlast];have := hO.txg
     by_cases ej : i = j
     ·subst ej
      by_cases ez : st.aa.ag.getD i 0 - 1 = 0
      ·rw [if_pos rfl, if_pos ⟨rfl, ez⟩, if_pos ⟨rfl, ez⟩]; exact ⟨Nat.zero_le _, ⟨fun _ => ez, fun _ => rfl⟩, by omega⟩
      ·rw [if_pos rfl, if_neg fun k => ez k.2, if_neg fun k => ez k.2]; refine ⟨hE.1, ⟨fun k => ?_, fun k => absurd k ez⟩, hE.2.2⟩
       have := hE.2.1.1 k; omega
     ·rw [if_neg ej, if_neg fun k => ej k.1, if_neg fun k => ej k.1]; exact hE
    ·rw [Y1]; intro j hj
     show (cnt (st.ak ++ st.ar) j : Int) ≤ (st.aa.give i).ag.getD j 0;rw [hrefs];have := Y1.1 hO.owed j hj
     split
     ·rename_i ej; subst ej; omega
     ·exact this
    ·show (((cnt X j + cnt (st.ak ++ st.ar) j : Nat)) : Int) ≤ (st.aa.give i).ag.getD j 0
     rw [hrefs];have := h.owes j h8j hj;rw [hone] at this
     by_cases ej : i = j
     ·rw [if_pos ej] at this ⊢; subst ej; omega
     ·rw [if_neg ej] at this ⊢; omega
    ·obtain ⟨j, h8j, hj, eq⟩ := Zbd hqo hqh
     rw [Uq eq, Uq eq];show (Yu st.ac st.aa i).getD j _ = _;rw [hrows]
     by_cases ej : i = j ∧ st.aa.ag.getD i 0 - 1 = 0
     ·obtain ⟨rfl, ez⟩ := ej
      have := ZjB hq eq
      omega
     ·rw [if_neg ej]
end
theorem Inv.step_gone {st : Za} {X : List PtrD} {p : PtrD} {r : List PtrD} (h : Inv st X) (hg : st.ak = p :: r) :
    Inv { st with ac := (UA (st.ac, st.aa) p).1, aa := (UA (st.ac, st.aa) p).2, ak := r } X ∧ Z5 st { st with ac := (UA (st.ac, st.aa) p).1, aa := (UA (st.ac, st.aa) p).2, ak := r } X := by
  have hO := Za.ok_spec h.ok;have hgo := hO.gone;rw [hg, List.all_cons, Bool.and_eq_true] at hgo;have hp := hgo.1;unfold YI at hp;simp only [Bool.and_eq_true, Bool.not_eq_true', decide_eq_true_eq] at hp;obtain ⟨hpo, hph, hpb⟩ := hp;obtain ⟨a, h8, ha, e⟩ := Zbd hpo hph;have hin := Zbq (p := p) (m := st.av - 1) (by unfold YI; rw [hpo, hph, decide_eq_true hpb]; rfl);have hc : ∀ j, cnt (st.ak ++ st.ar) j = (if a = j then 1 else 0) + cnt (r ++ st.ar) j := fun j => by
    rw [hg, cons_append, Y4, e]; congr 1; by_cases ej : a = j
    · rw [if_pos ej, if_pos (by omega)]
    · rw [if_neg ej, if_neg (by omega)]
  let q : PtrD := { p with al := st.av }
  have hqh : q.hole = false := by
    cases hq : q.hole with
    | false => rfl
    | true => have := YT hq; have e2 : q.aC = 0 := by rw [this]; rfl
              have e3 : q.aC = p.aC := rfl
              omega
  have hqo : q.ok = true := by
    have h1 := hpo;unfold PtrD.ok at h1 ⊢;rw [hph, Bool.false_or] at h1;rw [hqh, Bool.false_or];simp only [Bool.and_eq_true] at h1 ⊢;exact ⟨⟨⟨⟨h1.1.1.1.1, XU hO.txg.1 hO.txg.2⟩, h1.1.1.2⟩, h1.1.2⟩, h1.2⟩
  have h0 : Inv { st with ak := r } (q :: X) := by
    refine ⟨ZfX.ok ⟨hO.rows, hO.space, hO.txg, hO.keep, hO.each, hgo.2, hO.dead, ?_⟩, fun j h8j hj => ?_⟩
    · rw [Y1]; intro j hj
      have := Y1.1 hO.owed j hj;rw [hc] at this;show (cnt (r ++ st.ar) j : Int) ≤ st.aa.ag.getD j 0
      omega
    · have := h.owes j h8j hj
      rw [hc] at this;rw [Y4];show (((if p.aC = (j : Int) then 1 else 0) + cnt X j + cnt (r ++ st.ar) j : Nat) : Int) ≤ st.aa.ag.getD j 0;rw [e]
      by_cases ej : a = j
      · rw [if_pos ej] at this; rw [if_pos (by omega)]; omega
      · rw [if_neg ej] at this; rw [if_neg (by omega)]; omega
  have h1 := h0.free hqo;rw [Zav hqh (by show ¬ st.av ≤ st.az; have := hO.keep; omega) (by show ¬ st.av < st.av; omega)] at h1;exact ⟨h1.1, ⟨h1.2.row, rfl, rfl, rfl⟩⟩
theorem Inv.drops : ∀ {g : List PtrD} {st : Za} {X : List PtrD}, Inv st X → st.ak = g → Inv { st with ac := (Yw (st.ac, st.aa) g).1, aa := (Yw (st.ac, st.aa) g).2, ak := [] } X ∧ Z5 st { st with ac := (Yw (st.ac, st.aa) g).1, aa := (Yw (st.ac, st.aa) g).2, ak := [] } X
 | [], st, X, h, hg => by
  have e : ({ st with ac := (Yw (st.ac, st.aa) []).1, aa := (Yw (st.ac, st.aa) []).2, ak := [] } : Za) = st := by
   cases st; simp only [Yw, List.foldl_nil] at hg ⊢; subst hg; rfl
  rw [e]; exact ⟨h, Z5.refl _ _⟩
 | p :: r, st, X, h, hg => by
  obtain ⟨h1, k1⟩ := h.step_gone hg;obtain ⟨h2, k2⟩ := Inv.drops h1 rfl;exact ⟨h2, k1.trans k2⟩
structure Yy (st st' : Za) (X : List PtrD) : Prop where
  row : ∀ q ∈ X, q.ok = true → q.hole = false → Yt st' q = Yt st q
  txg : st.av ≤ st'.av
theorem Z5.rows {st st' : Za} {X : List PtrD} (h : Z5 st st' X) : Yy st st' X := ⟨h.row, by rw [h.txg]; exact Int.le_refl _⟩
theorem Yy.mono {a b : Za} {X Y : List PtrD} (h : Yy a b X) (hs : ∀ q ∈ Y, q ∈ X) : Yy a b Y := ⟨fun q hq => h.row q (hs q hq), h.txg⟩
theorem Inv.next {st : Za} {X : List PtrD} (h : Inv st X) (ht : st.av < 900) : Inv st.nextOf X ∧ Yy st st.nextOf X := by
 obtain ⟨h1, k1⟩ := h.drops rfl;have hO := Za.ok_spec h1.ok;have hP := Zq.ok_spec hO.space;have hE := Q8.1 hO.each;refine ⟨⟨ZfX.ok ⟨hO.rows, hO.space, ⟨by have := hO.txg.1; show 1 ≤ st.av + 1; have h5 : 1 ≤ st.av := this; omega, by show st.av + 1 ≤ 900; omega⟩, ⟨hO.keep.1, by have h5 : st.az ≤ st.av - 1 := hO.keep.2; show st.az ≤ st.av + 1 - 1; omega⟩, ?_, rfl, hO.dead, hO.owed⟩, h1.owes⟩, ⟨k1.row, by show st.av ≤ st.av + 1; omega⟩⟩;rw [Q8];intro i hi;obtain ⟨a, b, c⟩ := hE i hi;exact ⟨a, b, by have h5 : (Yw (st.ac, st.aa) st.ak).2.au.getD i 0 ≤ st.av := c; show (Yw (st.ac, st.aa) st.ak).2.au.getD i 0 ≤ st.av + 1; omega⟩
theorem Zfp {st st' : Za} {p : PtrD} (h : p.hole = false → Yt st' p = Yt st p) : XQ st' p = XQ st p := by
 cases hh : p.hole with
 | true => rw [Za1 hh, Za1 hh]
 | false => rw [QS hh, QS hh, h hh]
theorem Zax {st st' : Za} {p : PtrD} (h : p.hole = false → Yt st' p = Yt st p) : Zn st' p = Zn st p := by
 cases hh : p.hole with
 | true => rw [Xd hh, Xd hh]
 | false => unfold Zn; rw [hh, h hh]
theorem ZbY {st st' : Za} {p : PtrD} {n : Int} (h : p.hole = false → Yt st' p = Yt st p) : kids st' p n = kids st p n := by
 unfold kids;rw [Zfp h, Zax h]
noncomputable def lvL (st : Za) : Nat → PtrD → List PtrD
 | 0, p => [p]
 | n + 1, p => ((kids st p ((n + 1 : Nat) : Int)).getD []).flatMap (lvL st n)
theorem QV {st : Za} {p : PtrD} {n : Nat} {l : List PtrD} (hk : kids st p ((n + 1 : Nat) : Int) = some l) : lvL st (n + 1) p = l.flatMap (lvL st n) := by
 show ((kids st p ((n + 1 : Nat) : Int)).getD []).flatMap (lvL st n) = _;rw [hk]; rfl
theorem YC {f g : PtrD → List PtrD} : ∀ {l : List PtrD}, (∀ q ∈ l, f q = g q) → l.flatMap f = l.flatMap g
 | [], _ => rfl
 | q :: r, h => by rw [flatMap_cons, flatMap_cons, h q (mem_cons_self ..), YC fun x hx => h x (mem_cons_of_mem _ hx)]
theorem Wf.stays {st st' : Za} (ht : st.av ≤ st'.av) : ∀ {n : Nat} {p : PtrD}, Wf st n p → (∀ q ∈ allL st n p, Yt st' q = Yt st q) → Wf st' n p ∧ allL st' n p = allL st n p ∧ lvL st' n p = lvL st n p
 | 0, p, h, hr => by
  have e : p.hole = false → Yt st' p = Yt st p := fun hh => hr p (by rw [QB hh]; exact mem_singleton.2 rfl)
  exact ⟨⟨h.1, by have := h.2.1; omega, h.2.2.1, by rw [Zfp e]; exact h.2.2.2⟩, rfl, rfl⟩
 | n + 1, p, ⟨ho, hb, l, hk, hw⟩, hr => by
  have e : p.hole = false → Yt st' p = Yt st p := fun hh => hr p (by rw [Y0 hh hk]; exact mem_cons_self ..)
  have hk2 : kids st' p ((n + 1 : Nat) : Int) = some l := by rw [ZbY e]; exact hk
  have ih : ∀ q ∈ l, Wf st' n q ∧ allL st' n q = allL st n q ∧ lvL st' n q = lvL st n q := fun q hq => Wf.stays ht (hw q hq) fun x hx => by
   cases hh : p.hole with
   | false => exact hr x (by rw [Y0 hh hk]; exact mem_cons_of_mem _ (mem_flatMap.2 ⟨q, hq, hx⟩))
   | true =>
    rcases (QT hk).2.2 with ⟨_, rfl⟩ | ⟨h2, _⟩
    ·simp only [YL, mem_cons, List.not_mem_nil, or_false, or_self] at hq
     rw [hq, ZW X9] at hx; cases hx
    ·rw [hh] at h2; cases h2
  refine ⟨⟨ho, by omega, l, hk2, fun q hq => (ih q hq).1⟩, ?_, ?_⟩
  ·cases hh : p.hole with
   | true => rw [ZW hh, ZW hh]
   | false => rw [Y0 hh hk, Y0 hh hk2, YC fun q hq => (ih q hq).2.1]
  ·rw [QV hk, QV hk2, YC fun q hq => (ih q hq).2.2]
theorem UR {st : Za} : ∀ {n : Nat} {p : PtrD}, Wf st n p → ∀ q ∈ allL st n p, q.ok = true ∧ q.hole = false
 | 0, p, h, q, hq => by
  cases hh : p.hole with
  | true => rw [ZW hh] at hq; cases hq
  | false => rw [QB hh, mem_singleton] at hq; rw [hq]; exact ⟨h.1, hh⟩
 | n + 1, p, ⟨ho, hb, l, hk, hw⟩, q, hq => by
  cases hh : p.hole with
  | true => rw [ZW hh] at hq; cases hq
  | false =>
   rw [Y0 hh hk] at hq;rcases mem_cons.1 hq with rfl | hq
   ·exact ⟨ho, hh⟩
   ·obtain ⟨k, hkl, hq⟩ := mem_flatMap.1 hq
    exact UR (hw k hkl) q hq
theorem Wf.rows {st st' : Za} {n : Nat} {p : PtrD} {X : List PtrD} (h : Wf st n p) (hr : Yy st st' X) (hs : ∀ q ∈ allL st n p, q ∈ X) : Wf st' n p ∧ allL st' n p = allL st n p ∧ lvL st' n p = lvL st n p :=
 h.stays hr.txg fun q hq => hr.row q (hs q hq) (UR h q hq).1 (UR h q hq).2
theorem ZnB {st : Za} (h0 : 0 ≤ st.av) {n : Nat} {p : PtrD} (h : p.hole = true) : Wf st n p := by rw [YT h]; exact Wf.zero h0 n
theorem Zgj {st : Za} : ∀ {n : Nat} {p : PtrD}, Wf st n p → (lvL st n p).length = 4 ^ n
 | 0, p, _ => rfl
 | n + 1, p, ⟨ho, hb, l, hk, hw⟩ => by
  rw [QV hk];have : ∀ m : List PtrD, (∀ q ∈ m, Wf st n q) → (m.flatMap (lvL st n)).length = m.length * 4 ^ n := by
   intro m
   induction m with
   | nil => intro _; simp
   | cons q r ih => intro hq; rw [flatMap_cons, length_append, Zgj (hq q (mem_cons_self ..)), ih fun x hx => hq x (mem_cons_of_mem _ hx), length_cons, Nat.add_mul]; omega
  rw [this l hw, VX hk, Nat.pow_succ]; omega
theorem ZbZ {st : Za} {p : PtrD} (h : p.hole = true) : ∀ n, lvL st n p = replicate (4 ^ n) PtrD.zero
 | 0 => by rw [YT h]; rfl
 | n + 1 => by
  rw [QV (JF h)];simp only [YL, flatMap_cons, flatMap_nil, append_nil, ZbZ X9 n, List.replicate_append_replicate]
  congr 1; rw [Nat.pow_succ]; omega
theorem Zb0 {st : Za} : ∀ {n : Nat} {p : PtrD}, Wf st n p → ∀ q ∈ lvL st n p, Wf st 0 q
 | 0, p, h, q, hq => by rw [show lvL st 0 p = [p] from rfl, mem_singleton] at hq; rw [hq]; exact h
 | n + 1, p, ⟨ho, hb, l, hk, hw⟩, q, hq => by
  rw [QV hk] at hq;obtain ⟨k, hkl, hq⟩ := mem_flatMap.1 hq;exact Zb0 (hw k hkl) q hq
noncomputable def VA (st : Za) : List PtrD → Option (List (Option Zb))
 | [] => some []
 | p :: r => bif p.hole then (VA st r).map (none :: ·) else match J2 (Zn st p) with
  | none => none
  | some n => bif VU st n.ah then (VA st r).map (some n :: ·) else none
noncomputable def ZeO (st : Za) (t : Ze) : Option (List (Option Zb)) := (leavesF st t).bind (VA st)
theorem Zkt {st : Za} {t : Ze} (h : leavesF st t = none) : ZeO st t = none := by unfold ZeO; rw [h]; rfl
theorem Zfq {st : Za} {t : Ze} {l : List PtrD} (h : leavesF st t = some l) : ZeO st t = VA st l := by unfold ZeO; rw [h]; rfl
theorem Zcy {st : Za} {p : PtrD} {r : List PtrD} (h : p.hole = true) : VA st (p :: r) = (VA st r).map (none :: ·) := by
 show (bif p.hole then _ else _) = _;rw [h]; rfl
theorem Zht {st : Za} {p : PtrD} {r : List PtrD} (h : p.hole = false) (hn : J2 (Zn st p) = none) : VA st (p :: r) = none := by
 show (bif p.hole then _ else _) = _;rw [h, hn]; rfl
theorem Zfr {st : Za} {p : PtrD} {r : List PtrD} {n : Zb} (h : p.hole = false) (hn : J2 (Zn st p) = some n) (ht : VU st n.ah = false) : VA st (p :: r) = none := by
 show (bif p.hole then _ else _) = _;rw [h, hn];simp only [cond_false, ht]
theorem Zd2 {st : Za} {p : PtrD} {r : List PtrD} {n : Zb} (h : p.hole = false) (hn : J2 (Zn st p) = some n) (ht : VU st n.ah = true) : VA st (p :: r) = (VA st r).map (some n :: ·) := by
 show (bif p.hole then _ else _) = _;rw [h, hn];simp only [cond_false, ht, cond_true]
theorem Zd3 {xs : List PtrD} {i : Nat} (h : i < xs.length) : xs.drop i = xs.getD i PtrD.zero :: xs.drop (i + 1) := by
 rw [List.drop_eq_getElem_cons h, getD_eq_getElem?_getD, getElem?_eq_getElem h]; rfl
theorem Zhu {st : Za} : ∀ {l : List PtrD} {ns : List (Option Zb)}, VA st l = some ns → ns.length = l.length
 | [], ns, h => by obtain rfl := Option.some.inj h; rfl
 | p :: r, ns, h => by
  have key : ∀ o : Option Zb, (VA st r).map (o :: ·) = some ns → ns.length = (p :: r).length := fun o h => by
   cases hr : VA st r with
   | none => rw [hr] at h; cases h
   | some m =>
    rw [hr] at h;obtain rfl := Option.some.inj h;rw [length_cons, length_cons, Zhu hr]
  cases hh : p.hole with
  | true => exact key _ ((Zcy hh).symm.trans h)
  | false =>
   cases hn : J2 (Zn st p) with
   | none => rw [Zht hh hn] at h; cases h
   | some n =>
    cases ht : VU st n.ah with
    | false => rw [Zfr hh hn ht] at h; cases h
    | true => exact key _ ((Zd2 hh hn ht).symm.trans h)
theorem US {st : Za} {t : Ze} {l : List PtrD} (h : leavesF st t = some l) : l.length ≤ 16 := by
 obtain ⟨x, ht, hd, _, rfl, hx, hn⟩ := Za3 h;unfold topB at ht;rw [Bool.and_eq_true] at ht;have := Zs ht.1
 omega
def Zhv (st : Za) (p : PtrD) (o : Option Zb) : Prop := (p.hole = true ∧ o = none) ∨ (p.hole = false ∧ ∃ n, o = some n ∧ J2 (Zn st p) = some n ∧ VU st n.ah = true)
theorem Zds {st : Za} : ∀ {l : List PtrD} {ns : List (Option Zb)}, VA st l = some ns → ∀ k, k < l.length → Zhv st (l.getD k PtrD.zero) (ns.getD k none)
 | [], ns, h, k, hk => absurd hk (Nat.not_lt_zero _)
 | p :: r, ns, h, k, hk => by
  have key : ∀ o : Option Zb, Zhv st p o → (VA st r).map (o :: ·) = some ns → Zhv st ((p :: r).getD k PtrD.zero) (ns.getD k none) := fun o ho h => by
   cases hr : VA st r with
   | none => rw [hr] at h; cases h
   | some m =>
    rw [hr] at h;obtain rfl := Option.some.inj h
    cases k with
    | zero => exact ho
    | succ k => exact Zds hr k (by simpa using hk)
  cases hh : p.hole with
  | true => exact key _ (.inl ⟨hh, rfl⟩) ((Zcy hh).symm.trans h)
  | false =>
   cases hn : J2 (Zn st p) with
   | none => rw [Zht hh hn] at h; cases h
   | some n =>
    cases ht : VU st n.ah with
    | false => rw [Zfr hh hn ht] at h; cases h
    | true => exact key _ (.inr ⟨hh, n, rfl, hn, ht⟩) ((Zd2 hh hn ht).symm.trans h)
theorem Zgk {st : Za} {t : Ze} {ns : List (Option Zb)} (h : ZeO st t = some ns) : ∃ l, leavesF st t = some l ∧ VA st l = some ns ∧ ns.length = l.length := by
 cases hl : leavesF st t with
 | none => rw [Zkt hl] at h; cases h
 | some l => rw [Zfq hl] at h; exact ⟨l, rfl, h, Zhu h⟩
theorem Za.reads_of {W w : World} {s : List Asr} (h : St W s w) (x : Za) (a0 : Option Addr) (c0 : Nat) (a1 : Option Addr) (c1 : Nat) (a2 : Option Addr) (c2 : Nat) (a4 : Option Addr) (c4 : Nat) (a6 : Option Addr) (c6 : Nat) (i0 : Nat) (i1 : Nat) (i2 : Nat) (i4 : Nat) (i6 : Nat) (h0 : s[i0]? = some (Zg Zu 1 9 (.slice a0 x.ac.length c0) x.ac)) (h1 : s[i1]? = some (Zg ZG 1 3 (.slice a1 x.aa.ag.length c1) x.aa.ag)) (h2 : s[i2]? = some (Zg ZG 1 3 (.slice a2 x.aa.au.length c2) x.aa.au)) (h4 : s[i4]? = some (Zg PtrD.cells 5 24 (.slice a4 x.ak.length c4) x.ak)) (h6 : s[i6]? = some (Zg PtrD.cells 5 24 (.slice a6 x.ar.length c6) x.ar)) : Za.Reads w (.agg #[.slice a0 x.ac.length c0, .slice a1 x.aa.ag.length c1, .slice a2 x.aa.au.length c2, .int .i64 x.av, .slice a4 x.ak.length c4, .int .i64 x.az, .slice a6 x.ar.length c6, .bool x.aA]) x := by
 obtain ⟨_, _, e0, r0⟩ := h.rdS Zf i0 h0;simp only [Value.slice.injEq, true_and] at e0;obtain ⟨rfl, rfl⟩ := e0;obtain ⟨_, _, e1, r1⟩ := h.rdS Zp i1 h1;simp only [Value.slice.injEq, true_and] at e1;obtain ⟨rfl, rfl⟩ := e1;obtain ⟨_, _, e2, r2⟩ := h.rdS Zp i2 h2;simp only [Value.slice.injEq, true_and] at e2;obtain ⟨rfl, rfl⟩ := e2;obtain ⟨_, _, e4, r4⟩ := h.rdS PtrD.cells_len i4 h4;simp only [Value.slice.injEq, true_and] at e4;obtain ⟨rfl, rfl⟩ := e4;obtain ⟨_, _, e6, r6⟩ := h.rdS PtrD.cells_len i6 h6;simp only [Value.slice.injEq, true_and] at e6;obtain ⟨rfl, rfl⟩ := e6;exact ⟨a0, c0, a1, c1, a2, c2, a4, c4, a6, c6, rfl, r0, r1, r2, r4, r6⟩
theorem ZiI (v : Value) (st : Za) (text : ByteArray) (w0 : World) (hr : Za.Reads w0 v st) (h0 : st.ac.length = 64) (h1 : st.aa.ag.length = 64) (h2 : st.aa.au.length = 64) : Calls prog 179 #[v, .string text] w0 fun e w' => e = .returned (.int .i64 (ZaF st text)) ∧ Below w0.heap.size w0 w' := by
 obtain ⟨a0, c0, a1, c1, a2, c2, a4, c4, a6, c6, rfl, r0, r1, r2, _, _⟩ := hr;obtain ⟨g0, o0, r0⟩ := r0.opn;obtain ⟨g1, o1, r1⟩ := r1.opn;obtain ⟨g2, o2, r2⟩ := r2.opn;have R0 := Bx.mk r0;have R1 := Bx.mk r1;have R2 := Bx.mk r2;clear r0 r1 r2;have E := Bx.mk (St.start w0);refine QM func179 rfl ntmps179 [(0, sV a0 c0 a1 c1 a2 c2 a4 c4 a6 c6 st), (1, .string text)] ⟨rfl, rfl, trivial⟩ rfl ?_;refine xsr ?_;refine ybx E ?_;clear E;intro w1 b1 E;refine xr 1 rfl<|xne<|xsq<|xsr<|xr 1 rfl<|xne<|xbl ?_;intro a J;refine Zt (ι := Nat) (fun k a w => ((8 ≤ k ∧ k ≤ 64) ∧ ZT (Ui st text) 56 8 = ZT (Ui st text) (64 - k) k) ∧ Fr 40 a [(1, .string text), (2, .pointer (some ⟨b1, 0, none⟩)), (5, .int .i64 (k : Int))] ∧ St w0 ([boxA b1 8 44 (sV a0 c0 a1 c1 a2 c2 a4 c4 a6 c6 st)]) w) (fun k => 64 - k) 8 ⟨⟨by omega, rfl⟩, J.less _ ⟨rfl, rfl, rfl, trivial⟩, E.o⟩ ?_;clear J E; clear a;rintro k a w2 ⟨⟨⟨hk, hk2⟩, hf⟩, J, E⟩;replace E := Bx.mk E;revert a;refine xsq<|xsr<|xr 2 rfl<|xne<|xcs 7 rfl (fun cc1=>?_) fun cc1=>?_
 have cc1 := of_decide_eq_true cc1;refine xct rfl<|xsk<|xet<|xsq<|xbl<|xsq ?_;intro a J;refine Yf (by kernel_rfl) (by kernel_rfl) E.o ?_;revert a;refine Qf 0 rfl<|Ql 0 rfl rfl<|xqr 1 rfl<|xq rfl (fun E=>vxr 9 k 1 rfl (R0.out.ao k (by omega)))<|xq rfl (fun E a J=>ylo (v := .string (st.ac.getD k ByteArray.empty)) rfl (J.ev rfl) (R0.out.elem1 E (Zi (xs := st.ac) (j := k) (d := ByteArray.empty) (by omega)) rfl))<|xqr 1 rfl<|xq rfl (fun E a J=>Y7 rfl (J.ev rfl) (J.ev rfl))<|xqr 1 rfl<|xcs 17 rfl (fun cc2=>?_) fun cc2=>?_
 refine Qf 1 rfl<|Qf 1 rfl<|Ql 0 rfl rfl<|xqr 1 rfl<|xq rfl (fun E=>vxr 3 k 1 rfl (R2.out.ao k (by omega)))<|xq rfl (fun E a J=>ylo (v := .int .i64 (st.aa.au.getD k 0)) rfl (J.ev rfl) (R2.out.elem1 E (Zi (xs := st.aa.au) (j := k) (d := 0) (by omega)) rfl))<|Qf 3 rfl<|Ql 0 rfl rfl<|xqr 3 rfl<|xcs 28 rfl (fun cc3=>?_) fun cc3=>?_;refine Qf 1 rfl<|Qf 0 rfl<|Ql 0 rfl rfl<|xqr 1 rfl<|xq rfl (fun E=>vxr 3 k 1 rfl (R1.out.ao k (by omega)))<|xq rfl (fun E a J=>ylo (v := .int .i64 (st.aa.ag.getD k 0)) rfl (J.ev rfl) (R1.out.elem1 E (Zi (xs := st.aa.ag) (j := k) (d := 0) (by omega)) rfl))<|Qf 3 rfl<|Ql 0 rfl rfl<|xqr 2 rfl ?_;intro a J;refine wpQuiet_nil ?_; intro w3 E; replace E := Bx.mk E;revert a;refine xet<|xcs 38 rfl (fun cc4=>?_) fun cc4=>?_
 refine xct rfl<|xsr<|xr 2 rfl<|xne<|xre<|xbr<|xtr<|xtr<|xbr<|xtr<|xb1 results179 rfl ?_;have hp : Ui st text k = true := by unfold Ui; rw [cc2, cc3, cc4]; rfl
 have he : ZaF st text = k := by unfold ZaF; rw [Zj7 (by omega) hp hf]; exact Zju (by omega)
 exact ⟨by rw [he], E.o.bel⟩;refine xcf rfl<|xsk<|xeb<|xet<|xrl<|xr 1 rfl<|xy rfl (vad rfl)<|xr 1 rfl<|xne ?_;have hp : Ui st text k = false := by unfold Ui; rw [cc2, cc3, cc4]; rfl
 intro a J;exact ⟨k + 1, ⟨⟨by omega, Zcn (by omega) hp hf rfl⟩, J.less _ ⟨rfl, rfl, rfl, trivial⟩, E.o⟩, (by omega)⟩;refine xqr 10 rfl ?_;intro a J;refine wpQuiet_nil ?_; intro w4 E; replace E := Bx.mk E;revert a;refine xet<|xcf rfl<|xsk<|xeb<|xet<|xrl<|xr 1 rfl<|xy rfl (vad rfl)<|xr 1 rfl<|xne ?_;have hp : Ui st text k = false := by unfold Ui; rw [cc2, cc3]; rfl
 intro a J;exact ⟨k + 1, ⟨⟨by omega, Zcn (by omega) hp hf rfl⟩, J.less _ ⟨rfl, rfl, rfl, trivial⟩, E.o⟩, (by omega)⟩;refine xqr 21 rfl ?_;intro a J;refine wpQuiet_nil ?_; intro w5 E; replace E := Bx.mk E;revert a;refine xet<|xcf rfl<|xsk<|xeb<|xet<|xrl<|xr 1 rfl<|xy rfl (vad rfl)<|xr 1 rfl<|xne ?_;have hp : Ui st text k = false := by unfold Ui; rw [cc2]; rfl
 intro a J;exact ⟨k + 1, ⟨⟨by omega, Zcn (by omega) hp hf rfl⟩, J.less _ ⟨rfl, rfl, rfl, trivial⟩, E.o⟩, (by omega)⟩;have cc1 := of_decide_eq_false cc1;refine xcf rfl<|xex<|xtx<|xtx<|xbh<|xet<|xsr<|xr 1 rfl<|xne<|xre<|xb1 results179 rfl ?_;have he : ZaF st text = -1 := by unfold ZaF; rw [ZlC (by omega) hf]; rfl
 exact ⟨by rw [he], E.o.bel⟩
theorem Zmh (ao : Option Addr) (cap : Nat) (xs : List Int) (n : Int) (w0 : World) (hr : Rd ZG 1 w0 ao xs.length xs) (hl : xs.length ≤ 9223372036854775806) : Calls prog 195 #[.slice ao xs.length cap, .int .i64 n] w0 fun e w' => e = .returned (.bool (inL xs n)) ∧ Below w0.heap.size w0 w' := by
 obtain ⟨g0, o0, r0⟩ := hr.opn;have R0 := Bx.mk r0;clear r0;have E := Bx.mk (St.start w0);refine ent func195 ntmps195 ?_;refine xsr<|xr 1 rfl<|xne<|xsq<|xsr<|xr 1 rfl<|xne<|xbl ?_;intro a J;refine Zt (ι := Nat) (fun k a w => (k ≤ xs.length ∧ (xs.take k).any (· == n) = false) ∧ Fr 18 a [(0, .slice ao xs.length cap), (1, .int .i64 n), (5, .int .i64 (k : Int))] ∧ St w0 ([]) w) (fun k => xs.length - k) 0 ⟨⟨Nat.zero_le _, rfl⟩, J.ls _, E.o⟩ ?_;clear J E; clear a;rintro k a w1 ⟨⟨hk, hf⟩, J, E⟩;replace E := Bx.mk E;revert a;refine xsq<|xsr<|xr 2 rfl<|xy rfl (vn 3 1 rfl)<|xr 1 rfl<|xne<|xcs 9 rfl (fun cc1=>?_) fun cc1=>?_
 have cc1 := of_decide_eq_true cc1;refine xct rfl<|xsk<|xet<|xsq<|xbl<|xsr<|xr 2 rfl<|xy rfl (vxr 3 k 1 rfl (R0.out.ao k (by omega)))<|xy rfl (fun a J=>ylo (v := .int .i64 (xs.getD k 0)) rfl (J.ev rfl) (R0.out.elem1 E.o (Zi (xs := xs) (j := k) (d := 0) (by omega)) rfl))<|xr 2 rfl<|xne<|xcs 17 rfl (fun cc2=>?_) fun cc2=>?_;refine xct rfl<|xsr<|xr 1 rfl<|xne<|xre<|xbr<|xtr<|xtr<|xbr<|xtr<|xb1 results195 rfl ?_;exact ⟨by rw [ZlD (by omega) cc2], E.o.bel⟩;refine xcf rfl<|xsk<|xeb<|xet<|xrl<|xr 1 rfl<|xy rfl (vad rfl)<|xr 1 rfl<|xne ?_;intro a J;exact ⟨k + 1, ⟨⟨by omega, ZlE (by omega) cc2 hf⟩, J.less _ ⟨rfl, rfl, rfl, trivial⟩, E.o⟩, (by omega)⟩;have cc1 := of_decide_eq_false cc1;refine xcf rfl<|xex<|xtx<|xtx<|xbh<|xet<|xsr<|xr 1 rfl<|xne<|xre<|xb1 results195 rfl ?_;exact ⟨by rw [Znj (by omega) hf], E.o.bel⟩
theorem Zbe (ao a2 a3 : Option Addr) (cap n2 c2 c3 : Nat) (s : Zq) (w0 : World) (hr : Rd ZG 1 w0 ao s.ag.length s.ag) (hl : s.ag.length = 64) : Calls prog 180 #[.agg #[.slice ao s.ag.length cap, .slice a2 n2 c2], .int .i64 8, .slice a3 0 c3] w0 fun e w' => e = .returned (.int .i64 (Uj s)) ∧ Below w0.heap.size w0 w' := by
 obtain ⟨g0, o0, r0⟩ := hr.opn;have R0 := Bx.mk r0;clear r0;have E := Bx.mk (St.start w0);refine ent func180 ntmps180 ?_;refine xsr ?_;refine ybx E ?_;clear E;intro w1 b1 E;refine xr 1 rfl<|xne<|xsq<|xsr<|xr 1 rfl ?_;refine ycB ((X7 8 _).mono fun _ _ h => ⟨h.1, h.2 ▸ Below.refl _ _⟩) func48 E ?_;clear E;intro w2 E;refine xr 1 rfl<|xne<|xcs 12 rfl (fun cc1=>?_) fun cc1=>?_;exact absurd cc1 (by decide);refine xcf rfl<|xsk<|xet<|xsr<|xr 1 rfl<|xne<|xsq<|xsr<|xr 1 rfl<|xne<|xbl ?_;intro a J;refine Zt (ι := Nat) (fun i a w => (i ≤ 56 ∧ ZT (VL s) 56 8 = ZT (VL s) (56 - i) (8 + i)) ∧ Fr 38 a [(1, .int .i64 8), (2, .slice a3 0 c3), (3, .pointer (some ⟨b1, 0, none⟩)), (7, .int .i64 56), (8, .int .i64 (i : Int))] ∧ St w0 ([boxA b1 2 41 (.agg #[.slice ao s.ag.length cap, .slice a2 n2 c2])]) w) (fun i => 56 - i) 0 ⟨⟨Nat.zero_le _, rfl⟩, J.ls _, E.o⟩ ?_;clear J E; clear a;rintro i a w3 ⟨⟨hk, hf⟩, J, E⟩;replace E := Bx.mk E;revert a;refine xsq<|xsr<|xr 3 rfl<|xne<|xcs 15 rfl (fun cc2=>?_) fun cc2=>?_
 have cc2 := of_decide_eq_true cc2;refine xct rfl<|xsk<|xet<|xsq<|xbl<|xsr<|xr 1 rfl<|xy rfl (fun a J=>ZO rfl (J.ev rfl) (J.ev rfl) (Yi (by omega)))<|xr 1 rfl<|xy rfl (vad rfl)<|xr 1 rfl<|xy rfl (fun a J=>QK rfl (J.ev rfl) (J.ev rfl) (by omega) (QN (by omega) (by omega)))<|xy rfl (fun a J=>Yc (r := ((8 + i : Nat) : Int)) rfl (J.ev rfl) (J.ev rfl) ((Yi (by omega)).trans (by omega)))<|xr 1 rfl<|xne<|xsr<|Xf 0 rfl<|Xl 0 E rfl rfl<|xr 1 rfl<|xy rfl (vxr 3 (8 + i) 1 rfl (R0.out.ao (8 + i) (by omega)))<|xy rfl (fun a J=>ylo (v := .int .i64 (s.ag.getD (8 + i) 0)) rfl (J.ev rfl) (R0.out.elem1 E.o (Zi (xs := s.ag) (j := 8 + i) (d := 0) (by omega)) rfl))<|xr 2 rfl<|xcs 31 rfl (fun cc3=>?_) fun cc3=>?_;refine xr 2 rfl ?_;refine VJ (Zmh _ _ ([] : List Int) ((8 + i : Nat) : Int) _ ⟨rfl, fun i hi => absurd hi (Nat.not_lt_zero _)⟩ (by simp)) func195 E ?_;clear E;intro w4 E;refine xr 2 rfl<|xne<|xcs 36 rfl (fun cc4=>?_) fun cc4=>?_;refine xct rfl<|xsr<|xr 2 rfl<|xne<|xre<|xbr<|xtr<|xtr<|xbr<|xtr<|xb1 results180 rfl ?_;have hp : VL s (8 + i) = true := cc3;exact ⟨by rw [show Uj s = ((8 + i : Nat) : Int) by unfold Uj; rw [hf, show 56 - i = (55 - i) + 1 by omega, ZaT hp]; exact Zju (by omega)], E.o.bel⟩;refine xcf rfl<|xsk<|xeb<|xet<|xrl<|xr 1 rfl<|xy rfl (vad rfl)<|xr 1 rfl<|xne ?_;have hp : VL s (8 + i) = false := by unfold VL; first | exact cc3 | (exfalso; simp [inL] at cc4)
 intro a J;exact ⟨i + 1, ⟨⟨by omega, by rw [hf, show 56 - i = (56 - (i + 1)) + 1 by omega, Zan hp]; rfl⟩, J.less _ ⟨rfl, rfl, rfl, rfl, rfl, trivial⟩, E.o⟩, (by omega)⟩;refine xr 5 rfl<|xne<|xcf rfl<|xsk<|xeb<|xet<|xrl<|xr 1 rfl<|xy rfl (vad rfl)<|xr 1 rfl<|xne ?_;have hp : VL s (8 + i) = false := by unfold VL; first | exact cc3 | (exfalso; simp [inL] at cc3)
 intro a J;exact ⟨i + 1, ⟨⟨by omega, by rw [hf, show 56 - i = (56 - (i + 1)) + 1 by omega, Zan hp]; rfl⟩, J.less _ ⟨rfl, rfl, rfl, rfl, rfl, trivial⟩, E.o⟩, (by omega)⟩;have cc2 := of_decide_eq_false cc2;refine xcf rfl<|xex<|xtx<|xtx<|xbh<|xet<|xsr<|xr 1 rfl<|xne<|xre<|xb1 results180 rfl ?_;exact ⟨by rw [show Uj s = -1 by unfold Uj; rw [hf, show 56 - i = 0 by omega, show i = 56 by omega]; rfl], E.o.bel⟩
end Go.Proofs.YtfhdmfcfcgbgeaaGreatDoor
