/- A part of the proof in YtfhdmfcfcgbgeaaGreatDoorNhX7. -/
import Derived.Test.YtfhdmfcfcgbgeaaGreatDoorNhX4
namespace Go.Proofs.YtfhdmfcfcgbgeaaGreatDoor
set_option maxHeartbeats 4000000
open Go.Proofs.Tryz
open _root_.ByteArray (size_extract)
open List (append_nil cons_append drop_zero flatMap_append flatMap_cons flatMap_nil getD_eq_getElem?_getD getElem?_eq_getElem length_append length_cons length_drop length_map length_nil length_set length_singleton length_take map_cons mem_append mem_append_left mem_append_right mem_cons mem_cons_of_mem mem_cons_self mem_flatMap mem_singleton nil_append replicate)
open Option (getD_some)
set_option linter.unusedVariables false
set_option linter.unusedSimpArgs false
set_option maxHeartbeats 1000000
set_option maxRecDepth 100000
open Go.RowKit
theorem ZnM {P : Program} {o : Oper} {a : Act} {w : World} {x y : Operand} {tt : Array TypeId} {m n r : Int} (h : max m n = r) (ho : o.op = .call { callee := .builtin .max, args := #[x, y], argTypes := tt }) {k : IntKind} (hx : a.eval x = .int k m) (hy : a.eval y = .int k n) : Yl P w o a (.int k r) := h ▸ Zf1 ho hx hy
theorem ZmD {st : Za} {text : ByteArray} {level : Int} {i : Nat} (hok : st.ok = true) (hi : i < 64) (hw : writeAt st text level = i) {p : PtrD} (hp : p.ok = true) (hh : p.hole = false) (hr : XQ st p = true) : Yt (st.putAt i (st.ac.set i text)) p = Yt st p := by
 obtain ⟨_, hrow⟩ := Zfo hok hi hw;have hO := Za.ok_spec hok;obtain ⟨j, h8, hj, e⟩ := Zbd hp hh;rw [QS hh, Uq e] at hr;rw [Uq e, Uq e];show (st.ac.set i text).getD j _ = _;rw [X3 (by rw [hO.rows]; exact hi)]
 split
 ·rename_i ej
  subst ej;rcases hrow with ⟨h0, _⟩ | ⟨_, h1, _⟩
  ·have h2 := (Q8.1 hO.each i hi).2.1.2 h0
   unfold Qk at hr;simp only [Bool.and_eq_true, beq_iff_eq] at hr;unfold PtrD.ok at hp;rw [hh, Bool.false_or] at hp;simp only [Bool.and_eq_true] at hp;have h3 := Zs hp.1.1.2
   omega
  ·exact h1.symm
 ·rfl
theorem ZkL {st st' : Za} {p : PtrD} {n : Int} (ht : st'.av = st.av) (h : p.hole = false → Yt st' p = Yt st p) : kidsS st' p n = kidsS st p n := by unfold kidsS; rw [ZbY h, ht]
theorem ZiT {st : Za} {p : PtrD} {n : Int} {l : List PtrD} (hh : p.hole = false) (h : kidsS st p n = some l) : p.ok = true ∧ XQ st p = true := by
 obtain ⟨hk, ho⟩ := UL h;rcases (QT hk).2.2 with ⟨e, _⟩ | ⟨_, _, hr, _⟩
 ·rw [hh] at e; cases e
 ·exact ⟨(ho hh).1, hr⟩
theorem ZkM {st : Za} {text : ByteArray} {level : Int} (hok : st.ok = true) {p : PtrD} {n : Int} (hh : p.hole = false) (h : kidsS st p n ≠ none) : kidsS (YG st text level).st p n ≠ none := by
 cases hk : kidsS st p n with
 | none => exact absurd hk h
 | some l =>
  obtain ⟨ho, hr⟩ := ZiT hh hk
  by_cases hi : writeAt st text level < 64
  ·rw [Ub hi rfl]
   rw [ZkL (st := st) (st' := st.putAt (writeAt st text level) (st.ac.set (writeAt st text level) text)) rfl fun _ => ZmD hok hi rfl ho hh hr, hk]; simp
  ·rw [U0 (by have := J9 st text level; omega)]; rw [hk]; simp
theorem TreeX.kid {st : Za} {t : Ze} {x l : List PtrD} (X : TreeX st t x l) : t.aw = 2 → t.af.hole = false → kidsS st t.af 2 ≠ none := fun hd _ e => by
 have h := X.dn;have h2 : depthN t.ai = 2 := by have := X.dep; omega
 rw [h2] at h;rw [J0 (VT e)] at h; cases h
theorem TreeX.root {st : Za} {t : Ze} {x l : List PtrD} (X : TreeX st t x l) : t.af.ok = true := by
 obtain ⟨x, ht, _⟩ := Za3 X.lv;unfold topB at ht;simp only [Bool.and_eq_true] at ht;exact ht.2.2.1
theorem ZiU {l : List PtrD} {k : Nat} {p : PtrD} (h : ∀ q ∈ l, q.ok = true) (hp : p.ok = true) : ∀ q ∈ l.set k p, q.ok = true := fun q hq => by
 rcases List.mem_or_eq_of_mem_set hq with hq | rfl
 ·exact h q hq
 ·exact hp
theorem ZaA {s : ByteArray} (h : (s.toList == ByteArray.empty.toList) = true) : s.size = 0 := by rw [Qg h]; rfl
theorem Uc {s : ByteArray} (h : (s.toList == ByteArray.empty.toList) = false) : s.size ≠ 0 := fun e => by
 have : s = ByteArray.empty := ByteArray.ext (Array.eq_empty_of_size_eq_zero e);rw [this] at h; simp at h
theorem Zab (w0 w : World) (q0 : SQ) (t : Ze) {x l : List PtrD} (X : TreeX q0.d t x l) (k : Nat) (hk : k < 16) (text : ByteArray) (htl : text.size ≤ 128) (F : List Asr) (hq : q0.d.ok = true) (hS : St w0 (q0.asr :: F) w) : Calls prog 112 #[q0.u, tV t, .int .i64 (k : Int), .string text] w fun e w' => ∃ (q' : SQ) (r : UZ), r = XL q0.d t x k text ∧ q'.d = r.st ∧ (r.ok = false → q' = { q0 with d := r.st } ∧ Ua q0.d r.st) ∧ (r.ok = true → Vo 6 q'.d) ∧ e = .returned (.tuple #[q'.u, tV r.t, .bool r.ok]) ∧ St w0 (q'.asr :: F) w' := by
 have hrow0 := Xm hq; have hwl := UQ X.x16; have hwo := ZbW X.xok; have hmm := X.many;obtain ⟨old, hold⟩ : ∃ o, (Zo x).getD k PtrD.zero = o := ⟨_, rfl⟩;have hgo : (Zo x)[k]? = some old := by rw [← hold]; exact Zi (by omega)
 have hoo : old.ok = true := hwo _ (hold ▸ YN (by omega));obtain ⟨many, hmx⟩ : ∃ m : Nat, max t.ai ((k : Int) + 1) = (m : Int) := ⟨(max t.ai ((k : Int) + 1)).toNat, by omega⟩;have hm16 : many ≤ 16 := by omega
 have E := Bx.mk hS; clear hS;refine ent func112 ntmps112 ?_;refine xsr ?_;refine ybx E ?_;clear E;intro w1 b1 E;refine ybx E ?_;clear E;intro w2 b2 E;refine yal z8 E ?_;clear E;intro w3 b3 E;refine yal z7 E ?_;clear E;intro w4 b4 E;refine xr 1 rfl<|xne<|xsr<|Xw 3 8 E rfl rfl<|Xw 2 7 E rfl rfl ?_;refine yc (Vi q0.a0 q0.c0 q0.a1 q0.c1 q0.a2 q0.c2 q0.a4 q0.c4 q0.a6 q0.c6 q0.d t X.dn X.dep X.x16 _ (E.o.sqRd 4 rfl) hrow0) func95 ?_;rintro _ w5 ⟨ao5, cp5, rfl, hs⟩;refine ⟨_, rfl, ?_⟩;replace E := E.ad hs;clear hs;refine xr 1 rfl<|xne<|xsq ?_;obtain ⟨g6, rfl, _, _, _, _⟩ := E.o.rowOpen 0 rfl (by omega);refine xrl<|xr 2 rfl<|xy rfl (vx 24 k 5 rfl)<|xy rfl (fun a J=>ylr (cs := pL old) rfl (J.ev rfl) (E.o.elem PtrD.cells_len 0 rfl hgo)) ?_;refine yal z5 E ?_;clear E;intro w6 b7 E;refine yst E 0 ?_;clear E;intro w7 E;replace E:=E.nm;refine xne<|xsr<|Xw 5 8 E rfl rfl<|Xw 0 5 E rfl rfl ?_;refine ycB (J3 q0.a0 q0.c0 q0.a1 q0.c1 q0.a2 q0.c2 q0.a4 q0.c4 q0.a6 q0.c6 q0.d old _ (E.o.sqRd 6 rfl) hrow0 hoo) func96 E ?_;clear E;intro w8 E;refine xr 5 rfl<|xne<|xsr<|Xf 6 rfl<|Xl 4 E rfl rfl<|xr 1 rfl<|xy rfl (vad rfl)<|xy rfl (fun a J=>ZnM hmx rfl (J.ev rfl) (J.ev rfl))<|xr 1 rfl<|xne<|xsq<|xsr<|xr 2 rfl<|xy rfl (fun a J=>Y7 rfl (J.ev rfl) (J.ev rfl))<|xr 1 rfl<|xcs 42 rfl (fun cc1=>?_) fun cc1=>?_;have htxcc1 : ((Zn q0.d old).toList == text.toList) = true := by simpa using cc1
 refine xr 1 rfl<|Xf 6 rfl<|Xl 4 E rfl rfl<|xr 2 rfl<|xne<|xce 47 rfl (fun _ dcc2=>?_) fun _ dcc2=>?_;refine xct rfl<|xsq ?_;refine hld [3,2] E ?_;clear E;intro w9 E M;refine Hw 0 3 8 E rfl rfl<|Hw 1 2 7 E rfl rfl ?_;refine Zk 2 ?_;refine yos 3 [3,2] M ?_;clear E M;intro w10 E M;refine Zk 3 ?_;refine yos 2 [3,2] M ?_;clear E M;intro w11 E M;refine Hp 4 E rfl ?_;refine hdn ?_;replace E := M; clear M;refine xet<|xre<|xtr ?_;intro a J;refine Zx J results112 (J.resBox rfl (E.o.box 3 rfl) (by kernel_rfl)) (J.resBox rfl (E.o.box 2 rfl) (by kernel_rfl)) (J.res rfl) ?_;replace E:=E.pks [6];have hT := Zel (k := k) hold htxcc1 (hmx.trans (by omega));exact ⟨q0, _, hT.symm, rfl, fun h => (nomatch h), fun _ => (Jz hq).more (by omega), rfl, (E.o.erS [6,5,4,3,2,1])⟩;refine xcf rfl<|xsk<|xet<|xsr<|Xw 0 5 E rfl rfl ?_;refine yal z5 E ?_;clear E;intro w12 b8 E;refine yst E 0 ?_;clear E;intro w13 E;replace E:=E.nm;refine xne<|xsq<|xsr<|xr 2 rfl<|xy rfl (fun a J=>Xk rfl (J.ev rfl) (J.ev rfl))<|xne<|xcs 53 rfl (fun cc3=>?_) fun cc3=>?_;rw [htxcc1] at cc3; simp at cc3;have htxcc3 : ((Zn q0.d old).toList == text.toList) = true := by simpa using cc3
 refine xcf rfl<|xsk<|xet<|xsr<|xr 2 rfl<|Xw 0 5 E rfl rfl<|xy rfl (vx 24 k 5 rfl) ?_;intro a J;refine ZaS PtrD.cells_len rfl rfl rfl (J.ev rfl) (J.ev rfl) (by kernel_rfl) E.o 2 rfl (by omega) (z := old) rfl (by first | rfl | simp [Value.oneCell']) ?_; clear E; intro w14 E; replace E := Bx.mk E;revert a;refine xne<|xsr<|Xw 6 8 E rfl rfl<|Xw 5 7 E rfl rfl<|xr 2 rfl ?_;have hsl : ((Zo x).set k old).length = 16 := by rw [length_set]; exact hwl
 have hzl : (Zo x).length = ((Zo x).set k old).length := (length_set ..).symm;intro a J;rw [hzl] at E J;replace E:=E.nm;replace E:=E.pks [2,7];revert a;refine yc (Zcb w0 _ q0 t _ _ ((Zo x).set k old) many (depthN (many : Int)) _ rfl hsl (ZiU hwo hoo) (by omega) hq X.root X.kid E.o) func150 ?_;rintro _ w15 ⟨zq2, zr2, hr2, hq2, hf2, hW2, rfl, hs1⟩;refine ⟨_, rfl, ?_⟩; replace E := Bx.mk hs1;clear hs1;refine xr 4 rfl ?_;refine yst E 7 ?_;clear E;intro w16 E;replace E:=E.nm;refine yst E 6 ?_;clear E;intro w17 E;replace E:=E.nm;refine xr 1 rfl<|xne<|xsq<|xsr<|xr 2 rfl<|xne<|xcs 84 rfl (fun cc4=>?_) fun cc4=>?_;have hok2 : zr2.ok = false := by simpa using cc4
 refine xct rfl<|xsq ?_;refine hld [5,4] E ?_;clear E;intro w18 E M;refine Hw 0 5 8 E rfl rfl<|Hw 1 4 7 E rfl rfl ?_;refine Zk 2 ?_;refine yos 5 [5,4] M ?_;clear E M;intro w19 E M;refine Zk 3 ?_;refine yos 4 [5,4] M ?_;clear E M;intro w20 E M;refine Hp 4 E rfl ?_;refine hdn ?_;replace E := M; clear M;refine xet<|xre<|xtr ?_;intro a J;refine Zx J results112 (J.resBox rfl (E.o.box 5 rfl) (by kernel_rfl)) (J.resBox rfl (E.o.box 4 rfl) (by kernel_rfl)) (J.res rfl) ?_;replace E:=E.pks [0];have hne : ¬ (((Zn q0.d old).toList == text.toList) = true ∧ (many : Int) = t.ai) := fun h9 => by exact absurd h9.2 (by omega)
 have hT := Qn hold hmx hne (U1 htxcc3); rw [← hr2, hok2] at hT;rw [if_neg Bool.false_ne_true] at hT;exact ⟨zq2, zr2, hT.symm, hq2, fun _ => hf2 hok2, fun h => by (rw [hok2] at h; cases h), by rw [hok2], (E.o.erS [7,6,5,4,3,2,1])⟩;have hok2 : zr2.ok = true := by simpa using cc4
 refine xcf rfl<|xsk<|xet<|xsq<|xsr<|Xw 2 5 E rfl rfl<|Xw 3 5 E rfl rfl<|xy rfl (fun a J=>ZcE old old rfl (J.ev rfl) (J.ev rfl))<|xne<|xcs 89 rfl (fun cc5=>?_) fun cc5=>?_;have heq : (old).eqv old = false := by simpa using cc5
 refine xct rfl<|xrl<|Xw 7 8 E rfl rfl<|Xw 3 5 E rfl rfl ?_;replace E:=E.pks [0];refine yc (JI w0 _ zq2 old 5 _ hoo (hW2 hok2) (by omega) E.o) func151 ?_;rintro _ w21 ⟨zq3, hq3, rfl, hs1⟩;refine ⟨_, rfl, ?_⟩; replace E := Bx.mk hs1;clear hs1;refine yst E 7 ?_;clear E;intro w22 E;replace E:=E.nm;refine xne<|xsq ?_;refine hld [5,4] E ?_;clear E;intro w23 E M;refine Hw 0 5 8 E rfl rfl<|Hw 1 4 7 E rfl rfl ?_;refine Zk 2 ?_;refine yos 5 [5,4] M ?_;clear E M;intro w24 E M;refine Zk 3 ?_;refine yos 4 [5,4] M ?_;clear E M;intro w25 E M;refine Hp 4 E rfl ?_;refine hdn ?_;replace E := M; clear M;refine xet<|xre ?_;intro a J;refine Zx J results112 (J.resBox rfl (E.o.box 5 rfl) (by kernel_rfl)) (J.resBox rfl (E.o.box 4 rfl) (by kernel_rfl)) (J.res rfl) ?_;replace E:=E.pks [0];have hne : ¬ (((Zn q0.d old).toList == text.toList) = true ∧ (many : Int) = t.ai) := fun h9 => by exact absurd h9.2 (by omega)
 have hT := Qn hold hmx hne (U1 htxcc3); rw [← hr2, hok2] at hT;rw [if_pos rfl, heq] at hT;rw [if_neg Bool.false_ne_true] at hT;exact ⟨zq3, _, hT.symm, by rw [hq3, hq2], fun h => (nomatch h), fun _ => hq3 ▸ (hW2 hok2).free hoo, rfl, (E.o.erS [7,6,5,4,3,2,1])⟩;have heq : (old).eqv old = true := by simpa using cc5
 refine xcf rfl<|xsk<|xet<|xsq ?_;refine hld [5,4] E ?_;clear E;intro w26 E M;refine Hw 0 5 8 E rfl rfl<|Hw 1 4 7 E rfl rfl ?_;refine Zk 2 ?_;refine yos 5 [5,4] M ?_;clear E M;intro w27 E M;refine Zk 3 ?_;refine yos 4 [5,4] M ?_;clear E M;intro w28 E M;refine Hp 4 E rfl ?_;refine hdn ?_;replace E := M; clear M;refine xet<|xre ?_;intro a J;refine Zx J results112 (J.resBox rfl (E.o.box 5 rfl) (by kernel_rfl)) (J.resBox rfl (E.o.box 4 rfl) (by kernel_rfl)) (J.res rfl) ?_;replace E:=E.pks [0];have hne : ¬ (((Zn q0.d old).toList == text.toList) = true ∧ (many : Int) = t.ai) := fun h9 => by exact absurd h9.2 (by omega)
 have hT := Qn hold hmx hne (U1 htxcc3); rw [← hr2, hok2] at hT;rw [if_pos rfl, heq] at hT;rw [if_pos rfl] at hT;exact ⟨zq2, _, hT.symm, hq2, fun h => (nomatch h), fun _ => (hW2 hok2).more (by omega), rfl, (E.o.erS [7,6,5,4,3,2,1])⟩;have htxcc1 : ((Zn q0.d old).toList == text.toList) = false := by simpa using cc1
 refine xr 5 rfl<|xne<|xcf rfl<|xsk<|xet<|xsr<|Xw 0 5 E rfl rfl ?_;refine yal z5 E ?_;clear E;intro w29 b9 E;refine yst E 0 ?_;clear E;intro w30 E;replace E:=E.nm;refine xne<|xsq<|xsr<|xr 2 rfl<|xy rfl (fun a J=>Xk rfl (J.ev rfl) (J.ev rfl))<|xne<|xcs 53 rfl (fun cc6=>?_) fun cc6=>?_;have htxcc6 : ((Zn q0.d old).toList == text.toList) = false := by simpa using cc6
 refine xct rfl<|xsr<|xy rfl (vb z5 rfl) ?_;refine yst E 0 ?_;clear E;intro w31 E;replace E:=E.nm;refine xne<|xsr<|xr 1 rfl<|xy rfl (fun a J=>Xk rfl (J.ev rfl) (J.ev rfl))<|xne<|xcs 56 rfl (fun cc7=>?_) fun cc7=>?_;have hte : (text.toList == ByteArray.empty.toList) = false := by simpa using cc7
 have htz : inB (text.size : Int) 1 128 = true := XU (by have := Uc hte; omega) (by omega);refine xct rfl<|xsr<|Xw 6 8 E rfl rfl<|xr 1 rfl ?_;replace E:=E.pks [7];refine yc (Zca w0 _ q0 text 0 _ hq htz rfl E.o) func149 ?_;rintro _ w32 ⟨zq1, zr1, hr1, hq1, rfl, hs1⟩;refine ⟨_, rfl, ?_⟩; replace E := Bx.mk hs1;clear hs1;refine xr 4 rfl ?_;refine yal z8 E ?_;clear E;intro w33 b10 E;refine yal z5 E ?_;clear E;intro w34 b11 E;refine yst E 1 ?_;clear E;intro w35 E;replace E:=E.nm;refine yst E 0 ?_;clear E;intro w36 E;replace E:=E.nm;refine xr 1 rfl<|xne<|xsq<|xsr<|xr 2 rfl<|xne<|xcs 65 rfl (fun cc8=>?_) fun cc8=>?_;have hok1b : zr1.ok = false := by simpa using cc8
 refine xct rfl<|xsq ?_;refine hld [7,6] E ?_;clear E;intro w37 E M;refine Hw 0 7 8 E rfl rfl<|Hw 1 6 7 E rfl rfl ?_;refine Zk 2 ?_;refine yos 7 [7,6] M ?_;clear E M;intro w38 E M;refine Zk 3 ?_;refine yos 6 [7,6] M ?_;clear E M;intro w39 E M;refine Hp 4 E rfl ?_;refine hdn ?_;replace E := M; clear M;refine xet<|xre<|xtr<|xtr ?_;intro a J;refine Zx J results112 (J.resBox rfl (E.o.box 7 rfl) (by kernel_rfl)) (J.resBox rfl (E.o.box 6 rfl) (by kernel_rfl)) (J.res rfl) ?_;replace E:=E.pks [2];have hzs : zr1.st = q0.d := by rw [hr1] at hok1b ⊢; unfold YG at hok1b ⊢; split at hok1b; (cases hok1b); rw [if_neg (by assumption)]
 have hz : zq1 = q0 := by rw [hq1, hzs]
 have hT := ZfG (t := t) (k := k) hold htxcc6 ((Zaa htxcc6 (Uc hte)).trans (hr1.symm.trans (U2 hok1b)));subst hz;exact ⟨zq1, _, hT.symm, rfl, fun _ => ⟨rfl, Ua.refl _⟩, fun h => (nomatch h), rfl, (E.o.erS [9,8,7,6,5,4,3,2,1])⟩;have hok1b : zr1.ok = true := by simpa using cc8
 have hg1 := ZhJ (text := text) (level := 0) hq htz rfl; rw [← hr1] at hg1; have hpo1 := hg1.2; have hok1 : zq1.d.ok = true := by rw [hq1]; exact hg1.1.ok hq
 refine xcf rfl<|xsk<|xet<|xsr<|Xw 1 8 E rfl rfl ?_;refine yst E 9 ?_;clear E;intro w40 E;replace E:=E.nm;refine xne<|xrl<|Xw 0 5 E rfl rfl ?_;refine yst E 3 ?_;clear E;intro w41 E;replace E:=E.nm;refine xne<|xsr<|xr 2 rfl<|Xw 3 5 E rfl rfl<|xy rfl (vx 24 k 5 rfl) ?_;intro a J;refine ZaS PtrD.cells_len rfl rfl rfl (J.ev rfl) (J.ev rfl) (by kernel_rfl) E.o 5 rfl (by omega) (z := zr1.p) rfl (by first | rfl | simp [Value.oneCell']) ?_; clear E; intro w42 E; replace E := Bx.mk E;revert a;refine xne<|xsr<|Xw 9 8 E rfl rfl<|Xw 8 7 E rfl rfl<|xr 2 rfl ?_;have hsl : ((Zo x).set k zr1.p).length = 16 := by rw [length_set]; exact hwl
 have hzl : (Zo x).length = ((Zo x).set k zr1.p).length := (length_set ..).symm;intro a J;rw [hzl] at E J;replace E:=E.nm;replace E:=E.pks [5,3];revert a;refine yc (Zcb w0 _ zq1 t _ _ ((Zo x).set k zr1.p) many (depthN (many : Int)) _ rfl hsl (ZiU hwo hpo1) (by omega) hok1 X.root (fun hd hh => by rw [hq1, hr1]; exact ZkM hq hh (X.kid hd hh)) E.o) func150 ?_;rintro _ w43 ⟨zq2, zr2, hr2, hq2, hf2, hW2, rfl, hs1⟩;refine ⟨_, rfl, ?_⟩; replace E := Bx.mk hs1;clear hs1;refine xr 4 rfl ?_;refine yst E 9 ?_;clear E;intro w44 E;replace E:=E.nm;refine yst E 8 ?_;clear E;intro w45 E;replace E:=E.nm;refine xr 1 rfl<|xne<|xsq<|xsr<|xr 2 rfl<|xne<|xcs 84 rfl (fun cc9=>?_) fun cc9=>?_;have hok2 : zr2.ok = false := by simpa using cc9
 refine xct rfl<|xsq ?_;refine hld [7,6] E ?_;clear E;intro w46 E M;refine Hw 0 7 8 E rfl rfl<|Hw 1 6 7 E rfl rfl ?_;refine Zk 2 ?_;refine yos 7 [7,6] M ?_;clear E M;intro w47 E M;refine Zk 3 ?_;refine yos 6 [7,6] M ?_;clear E M;intro w48 E M;refine Hp 4 E rfl ?_;refine hdn ?_;replace E := M; clear M;refine xet<|xre<|xtr ?_;intro a J;refine Zx J results112 (J.resBox rfl (E.o.box 7 rfl) (by kernel_rfl)) (J.resBox rfl (E.o.box 6 rfl) (by kernel_rfl)) (J.res rfl) ?_;replace E:=E.pks [0];have hq1d : zq1.d = zr1.st := by rw [hq1]
 rw [hq1d] at hr2;have hne : ¬ (((Zn q0.d old).toList == text.toList) = true ∧ (many : Int) = t.ai) := fun h9 => by rw [htxcc6] at h9; exact absurd h9.1 (by decide)
 have hT := Qn hold hmx hne (((Zaa htxcc6 (Uc hte)).trans (hr1.symm.trans (U2 hok1b)))); rw [← hr2, hok2] at hT;rw [if_neg Bool.false_ne_true] at hT;obtain ⟨hfa, hfb⟩ := hf2 hok2;exact ⟨zq2, zr2, hT.symm, hq2, fun _ => ⟨by rw [hfa, hq1], hg1.1.trans (hq1d ▸ hfb)⟩, fun h => by (rw [hok2] at h; cases h), by rw [hok2], (E.o.erS [9,8,7,6,5,4,3,2,1])⟩;have hok2 : zr2.ok = true := by simpa using cc9
 refine xcf rfl<|xsk<|xet<|xsq<|xsr<|Xw 4 5 E rfl rfl<|Xw 5 5 E rfl rfl<|xy rfl (fun a J=>ZcE zr1.p old rfl (J.ev rfl) (J.ev rfl))<|xne<|xcs 89 rfl (fun cc10=>?_) fun cc10=>?_;have heq : (zr1.p).eqv old = false := by simpa using cc10
 refine xct rfl<|xrl<|Xw 9 8 E rfl rfl<|Xw 5 5 E rfl rfl ?_;replace E:=E.pks [0];refine yc (JI w0 _ zq2 old 5 _ hoo (hW2 hok2) (by omega) E.o) func151 ?_;rintro _ w49 ⟨zq3, hq3, rfl, hs1⟩;refine ⟨_, rfl, ?_⟩; replace E := Bx.mk hs1;clear hs1;refine yst E 9 ?_;clear E;intro w50 E;replace E:=E.nm;refine xne<|xsq ?_;refine hld [7,6] E ?_;clear E;intro w51 E M;refine Hw 0 7 8 E rfl rfl<|Hw 1 6 7 E rfl rfl ?_;refine Zk 2 ?_;refine yos 7 [7,6] M ?_;clear E M;intro w52 E M;refine Zk 3 ?_;refine yos 6 [7,6] M ?_;clear E M;intro w53 E M;refine Hp 4 E rfl ?_;refine hdn ?_;replace E := M; clear M;refine xet<|xre ?_;intro a J;refine Zx J results112 (J.resBox rfl (E.o.box 7 rfl) (by kernel_rfl)) (J.resBox rfl (E.o.box 6 rfl) (by kernel_rfl)) (J.res rfl) ?_;replace E:=E.pks [0];have hq1d : zq1.d = zr1.st := by rw [hq1]
 rw [hq1d] at hr2;have hne : ¬ (((Zn q0.d old).toList == text.toList) = true ∧ (many : Int) = t.ai) := fun h9 => by rw [htxcc6] at h9; exact absurd h9.1 (by decide)
 have hT := Qn hold hmx hne (((Zaa htxcc6 (Uc hte)).trans (hr1.symm.trans (U2 hok1b)))); rw [← hr2, hok2] at hT;rw [if_pos rfl, heq] at hT;rw [if_neg Bool.false_ne_true] at hT;exact ⟨zq3, _, hT.symm, by rw [hq3, hq2], fun h => (nomatch h), fun _ => hq3 ▸ (hW2 hok2).free hoo, rfl, (E.o.erS [9,8,7,6,5,4,3,2,1])⟩;have heq : (zr1.p).eqv old = true := by simpa using cc10
 refine xcf rfl<|xsk<|xet<|xsq ?_;refine hld [7,6] E ?_;clear E;intro w54 E M;refine Hw 0 7 8 E rfl rfl<|Hw 1 6 7 E rfl rfl ?_;refine Zk 2 ?_;refine yos 7 [7,6] M ?_;clear E M;intro w55 E M;refine Zk 3 ?_;refine yos 6 [7,6] M ?_;clear E M;intro w56 E M;refine Hp 4 E rfl ?_;refine hdn ?_;replace E := M; clear M;refine xet<|xre ?_;intro a J;refine Zx J results112 (J.resBox rfl (E.o.box 7 rfl) (by kernel_rfl)) (J.resBox rfl (E.o.box 6 rfl) (by kernel_rfl)) (J.res rfl) ?_;replace E:=E.pks [0];have hq1d : zq1.d = zr1.st := by rw [hq1]
 rw [hq1d] at hr2;have hne : ¬ (((Zn q0.d old).toList == text.toList) = true ∧ (many : Int) = t.ai) := fun h9 => by rw [htxcc6] at h9; exact absurd h9.1 (by decide)
 have hT := Qn hold hmx hne (((Zaa htxcc6 (Uc hte)).trans (hr1.symm.trans (U2 hok1b)))); rw [← hr2, hok2] at hT;rw [if_pos rfl, heq] at hT;rw [if_pos rfl] at hT;exact ⟨zq2, _, hT.symm, hq2, fun h => (nomatch h), fun _ => (hW2 hok2).more (by omega), rfl, (E.o.erS [9,8,7,6,5,4,3,2,1])⟩;have hte : (text.toList == ByteArray.empty.toList) = true := by simpa using cc7
 refine xcf rfl<|xsk<|xet<|xsr<|xr 2 rfl<|Xw 0 5 E rfl rfl<|xy rfl (vx 24 k 5 rfl) ?_;intro a J;refine ZaS PtrD.cells_len rfl rfl rfl (J.ev rfl) (J.ev rfl) (by kernel_rfl) E.o 2 rfl (by omega) (z := PtrD.zero) rfl (by first | rfl | simp [Value.oneCell']) ?_; clear E; intro w57 E; replace E := Bx.mk E;revert a;refine xne<|xsr<|Xw 6 8 E rfl rfl<|Xw 5 7 E rfl rfl<|xr 2 rfl ?_;have hsl : ((Zo x).set k PtrD.zero).length = 16 := by rw [length_set]; exact hwl
 have hzl : (Zo x).length = ((Zo x).set k PtrD.zero).length := (length_set ..).symm;intro a J;rw [hzl] at E J;replace E:=E.nm;replace E:=E.pks [2,7];revert a;refine yc (Zcb w0 _ q0 t _ _ ((Zo x).set k PtrD.zero) many (depthN (many : Int)) _ rfl hsl (ZiU hwo rfl) (by omega) hq X.root X.kid E.o) func150 ?_;rintro _ w58 ⟨zq2, zr2, hr2, hq2, hf2, hW2, rfl, hs1⟩;refine ⟨_, rfl, ?_⟩; replace E := Bx.mk hs1;clear hs1;refine xr 4 rfl ?_;refine yst E 7 ?_;clear E;intro w59 E;replace E:=E.nm;refine yst E 6 ?_;clear E;intro w60 E;replace E:=E.nm;refine xr 1 rfl<|xne<|xsq<|xsr<|xr 2 rfl<|xne<|xcs 84 rfl (fun cc11=>?_) fun cc11=>?_;have hok2 : zr2.ok = false := by simpa using cc11
 refine xct rfl<|xsq ?_;refine hld [5,4] E ?_;clear E;intro w61 E M;refine Hw 0 5 8 E rfl rfl<|Hw 1 4 7 E rfl rfl ?_;refine Zk 2 ?_;refine yos 5 [5,4] M ?_;clear E M;intro w62 E M;refine Zk 3 ?_;refine yos 4 [5,4] M ?_;clear E M;intro w63 E M;refine Hp 4 E rfl ?_;refine hdn ?_;replace E := M; clear M;refine xet<|xre<|xtr ?_;intro a J;refine Zx J results112 (J.resBox rfl (E.o.box 5 rfl) (by kernel_rfl)) (J.resBox rfl (E.o.box 4 rfl) (by kernel_rfl)) (J.res rfl) ?_;replace E:=E.pks [0];have hne : ¬ (((Zn q0.d old).toList == text.toList) = true ∧ (many : Int) = t.ai) := fun h9 => by rw [htxcc6] at h9; exact absurd h9.1 (by decide)
 have hT := Qn hold hmx hne (Zaz htxcc6 (ZaA hte)); rw [← hr2, hok2] at hT;rw [if_neg Bool.false_ne_true] at hT;exact ⟨zq2, zr2, hT.symm, hq2, fun _ => hf2 hok2, fun h => by (rw [hok2] at h; cases h), by rw [hok2], (E.o.erS [7,6,5,4,3,2,1])⟩;have hok2 : zr2.ok = true := by simpa using cc11
 refine xcf rfl<|xsk<|xet<|xsq<|xsr<|Xw 2 5 E rfl rfl<|Xw 3 5 E rfl rfl<|xy rfl (fun a J=>ZcE PtrD.zero old rfl (J.ev rfl) (J.ev rfl))<|xne<|xcs 89 rfl (fun cc12=>?_) fun cc12=>?_;have heq : (PtrD.zero).eqv old = false := by simpa using cc12
 refine xct rfl<|xrl<|Xw 7 8 E rfl rfl<|Xw 3 5 E rfl rfl ?_;replace E:=E.pks [0];refine yc (JI w0 _ zq2 old 5 _ hoo (hW2 hok2) (by omega) E.o) func151 ?_;rintro _ w64 ⟨zq3, hq3, rfl, hs1⟩;refine ⟨_, rfl, ?_⟩; replace E := Bx.mk hs1;clear hs1;refine yst E 7 ?_;clear E;intro w65 E;replace E:=E.nm;refine xne<|xsq ?_;refine hld [5,4] E ?_;clear E;intro w66 E M;refine Hw 0 5 8 E rfl rfl<|Hw 1 4 7 E rfl rfl ?_;refine Zk 2 ?_;refine yos 5 [5,4] M ?_;clear E M;intro w67 E M;refine Zk 3 ?_;refine yos 4 [5,4] M ?_;clear E M;intro w68 E M;refine Hp 4 E rfl ?_;refine hdn ?_;replace E := M; clear M;refine xet<|xre ?_;intro a J;refine Zx J results112 (J.resBox rfl (E.o.box 5 rfl) (by kernel_rfl)) (J.resBox rfl (E.o.box 4 rfl) (by kernel_rfl)) (J.res rfl) ?_;replace E:=E.pks [0];have hne : ¬ (((Zn q0.d old).toList == text.toList) = true ∧ (many : Int) = t.ai) := fun h9 => by rw [htxcc6] at h9; exact absurd h9.1 (by decide)
 have hT := Qn hold hmx hne (Zaz htxcc6 (ZaA hte)); rw [← hr2, hok2] at hT;rw [if_pos rfl, heq] at hT;rw [if_neg Bool.false_ne_true] at hT;exact ⟨zq3, _, hT.symm, by rw [hq3, hq2], fun h => (nomatch h), fun _ => hq3 ▸ (hW2 hok2).free hoo, rfl, (E.o.erS [7,6,5,4,3,2,1])⟩;have heq : (PtrD.zero).eqv old = true := by simpa using cc12
 refine xcf rfl<|xsk<|xet<|xsq ?_;refine hld [5,4] E ?_;clear E;intro w69 E M;refine Hw 0 5 8 E rfl rfl<|Hw 1 4 7 E rfl rfl ?_;refine Zk 2 ?_;refine yos 5 [5,4] M ?_;clear E M;intro w70 E M;refine Zk 3 ?_;refine yos 4 [5,4] M ?_;clear E M;intro w71 E M;refine Hp 4 E rfl ?_;refine hdn ?_;replace E := M; clear M;refine xet<|xre ?_;intro a J;refine Zx J results112 (J.resBox rfl (E.o.box 5 rfl) (by kernel_rfl)) (J.resBox rfl (E.o.box 4 rfl) (by kernel_rfl)) (J.res rfl) ?_;replace E:=E.pks [0];have hne : ¬ (((Zn q0.d old).toList == text.toList) = true ∧ (many : Int) = t.ai) := fun h9 => by rw [htxcc6] at h9; exact absurd h9.1 (by decide)
 have hT := Qn hold hmx hne (Zaz htxcc6 (ZaA hte)); rw [← hr2, hok2] at hT;rw [if_pos rfl, heq] at hT;rw [if_pos rfl] at hT;exact ⟨zq2, _, hT.symm, hq2, fun h => (nomatch h), fun _ => (hW2 hok2).more (by omega), rfl, (E.o.erS [7,6,5,4,3,2,1])⟩;rw [htxcc1] at cc6; simp at cc6
theorem Zcc {q : SQ} {s : Za} (h : q.d.ok = true) (hg : Ua q.d s) : (.agg #[.slice q.a0 q.d.ac.length q.c0, .slice q.a1 q.d.aa.ag.length q.c1, .slice q.a2 q.d.aa.au.length q.c2, .int .i64 q.d.av, .slice q.a4 q.d.ak.length q.c4, .int .i64 q.d.az, .slice q.a6 q.d.ar.length q.c6, .bool q.d.aA] : Value) = .agg #[.slice ((SQ.mk q.a0 q.c0 q.a1 q.c1 q.a2 q.c2 q.a4 q.c4 q.a6 q.c6 s).a0) ((SQ.mk q.a0 q.c0 q.a1 q.c1 q.a2 q.c2 q.a4 q.c4 q.a6 q.c6 s).d.ac.length) ((SQ.mk q.a0 q.c0 q.a1 q.c1 q.a2 q.c2 q.a4 q.c4 q.a6 q.c6 s).c0), .slice ((SQ.mk q.a0 q.c0 q.a1 q.c1 q.a2 q.c2 q.a4 q.c4 q.a6 q.c6 s).a1) ((SQ.mk q.a0 q.c0 q.a1 q.c1 q.a2 q.c2 q.a4 q.c4 q.a6 q.c6 s).d.aa.ag.length) ((SQ.mk q.a0 q.c0 q.a1 q.c1 q.a2 q.c2 q.a4 q.c4 q.a6 q.c6 s).c1), .slice ((SQ.mk q.a0 q.c0 q.a1 q.c1 q.a2 q.c2 q.a4 q.c4 q.a6 q.c6 s).a2) ((SQ.mk q.a0 q.c0 q.a1 q.c1 q.a2 q.c2 q.a4 q.c4 q.a6 q.c6 s).d.aa.au.length) ((SQ.mk q.a0 q.c0 q.a1 q.c1 q.a2 q.c2 q.a4 q.c4 q.a6 q.c6 s).c2), .int .i64 ((SQ.mk q.a0 q.c0 q.a1 q.c1 q.a2 q.c2 q.a4 q.c4 q.a6 q.c6 s).d.av), .slice ((SQ.mk q.a0 q.c0 q.a1 q.c1 q.a2 q.c2 q.a4 q.c4 q.a6 q.c6 s).a4) ((SQ.mk q.a0 q.c0 q.a1 q.c1 q.a2 q.c2 q.a4 q.c4 q.a6 q.c6 s).d.ak.length) ((SQ.mk q.a0 q.c0 q.a1 q.c1 q.a2 q.c2 q.a4 q.c4 q.a6 q.c6 s).c4), .int .i64 ((SQ.mk q.a0 q.c0 q.a1 q.c1 q.a2 q.c2 q.a4 q.c4 q.a6 q.c6 s).d.az), .slice ((SQ.mk q.a0 q.c0 q.a1 q.c1 q.a2 q.c2 q.a4 q.c4 q.a6 q.c6 s).a6) ((SQ.mk q.a0 q.c0 q.a1 q.c1 q.a2 q.c2 q.a4 q.c4 q.a6 q.c6 s).d.ar.length) ((SQ.mk q.a0 q.c0 q.a1 q.c1 q.a2 q.c2 q.a4 q.c4 q.a6 q.c6 s).c6), .bool ((SQ.mk q.a0 q.c0 q.a1 q.c1 q.a2 q.c2 q.a4 q.c4 q.a6 q.c6 s).d.aA)] := by
 have a := Za.ok_spec h; have b := Za.ok_spec (hg.ok h);have c := Zq.ok_spec a.space; have d := Zq.ok_spec b.space;dsimp only;rw [a.rows, b.rows, c.refs, d.refs, c.last, d.last, hg.txg, hg.keep, hg.same, hg.gone, hg.dead]
theorem Zcd {l : List PtrD} {i : Nat} {s : Za} (hi : i < l.length) : Qp (l.drop i) s = Qp (l.drop (i + 1)) (s.free (l.getD i PtrD.zero)) := by
 rw [UN hi]; rfl
theorem Zer (w0 w : World) (q0 : SQ) (t : Ze) {x l : List PtrD} (X : TreeX q0.d t x l) (many : Nat) (hm16 : many ≤ 16) (F : List Asr) (hq : q0.d.ok = true) (hS : St w0 (q0.asr :: F) w) : Calls prog 159 #[q0.u, tV t, .int .i64 (many : Int)] w fun e w' => ∃ (q' : SQ) (r : UZ), r = Q0 q0.d t x many ∧ q'.d = r.st ∧ (r.ok = false → q' = { q0 with d := r.st } ∧ Ua q0.d r.st) ∧ (r.ok = true → Vo 30 q'.d) ∧ e = .returned (.tuple #[q'.u, tV r.t, .bool r.ok]) ∧ St w0 (q'.asr :: F) w' := by
 have hrow0 := Xm hq; have hwl := UQ X.x16; have hwo := ZbW X.xok;have E := Bx.mk hS; clear hS;refine ent func159 ntmps159 ?_;refine xsr ?_;refine ybx E ?_;clear E;intro w1 b1 E;refine ybx E ?_;clear E;intro w2 b2 E;refine yal z8 E ?_;clear E;intro w3 b3 E;refine yal z7 E ?_;clear E;intro w4 b4 E;refine xr 1 rfl<|xne<|xsq<|xsr<|xr 1 rfl<|Xf 6 rfl<|Xl 2 E rfl rfl<|xr 1 rfl<|xne<|xce 17 rfl (fun _ dcc1=>?_) fun _ dcc1=>?_;refine xct rfl<|xsq ?_;refine hld [1,0] E ?_;clear E;intro w5 E M;refine Hw 0 1 8 E rfl rfl<|Hw 1 0 7 E rfl rfl ?_;refine Zk 2 ?_;refine yos 1 [1,0] M ?_;clear E M;intro w6 E M;refine Zk 3 ?_;refine yos 0 [1,0] M ?_;clear E M;intro w7 E M;refine Hp 4 E rfl ?_;refine hdn ?_;replace E := M; clear M;refine xet<|xre<|xtr ?_;intro a J;refine Zx J results159 (J.resBox rfl (E.o.box 1 rfl) (by kernel_rfl)) (J.resBox rfl (E.o.box 0 rfl) (by kernel_rfl)) (J.res rfl) ?_;replace E:=E.pks [4];have hT : Q0 q0.d t x many = ⟨q0.d, t, true⟩ := by unfold Q0; rw [if_pos (by omega)]
 exact ⟨q0, _, hT.symm, rfl, fun h => (nomatch h), fun _ => (Jz hq).more (by omega), rfl, (E.o.erS [4,3,2,1])⟩;refine xcf rfl<|xsk<|xet<|xsr<|Xw 3 8 E rfl rfl<|Xw 2 7 E rfl rfl ?_;refine yc (Vi q0.a0 q0.c0 q0.a1 q0.c1 q0.a2 q0.c2 q0.a4 q0.c4 q0.a6 q0.c6 q0.d t X.dn X.dep X.x16 _ (E.o.sqRd 4 rfl) hrow0) func95 ?_;rintro _ w8 ⟨ao5, cp5, rfl, hs⟩;refine ⟨_, rfl, ?_⟩;replace E := E.ad hs;clear hs;refine xr 1 rfl<|xne<|xsr<|Xw 4 8 E rfl rfl<|Xw 3 7 E rfl rfl<|xr 2 rfl ?_;replace E:=E.pks [0,5];refine yc (Zcb w0 _ q0 t _ _ (Zo x) many (depthN (many : Int)) _ rfl hwl hwo (by omega) hq X.root X.kid E.o) func150 ?_;rintro _ w9 ⟨zq1, zt1, hr1, hq1, hf1, hW1, rfl, hs1⟩;refine ⟨_, rfl, ?_⟩; replace E := Bx.mk hs1;clear hs1;refine xr 4 rfl ?_;refine yal z8 E ?_;clear E;intro w10 b6 E;refine yal z7 E ?_;clear E;intro w11 b7 E;refine yst E 1 ?_;clear E;intro w12 E;replace E:=E.nm;refine yst E 0 ?_;clear E;intro w13 E;replace E:=E.nm;refine xr 1 rfl<|xne<|xsq<|xsr<|xr 2 rfl<|xne<|xcs 33 rfl (fun cc2=>?_) fun cc2=>?_;have hok1 : zt1.ok = false := by simpa using cc2
 refine xct rfl<|xsq ?_;refine hld [5,4] E ?_;clear E;intro w14 E M;refine Hw 0 5 8 E rfl rfl<|Hw 1 4 7 E rfl rfl ?_;refine Zk 2 ?_;refine yos 5 [5,4] M ?_;clear E M;intro w15 E M;refine Zk 3 ?_;refine yos 4 [5,4] M ?_;clear E M;intro w16 E M;refine Hp 4 E rfl ?_;refine hdn ?_;replace E := M; clear M;refine xet<|xre<|xtr ?_;intro a J;refine Zx J results159 (J.resBox rfl (E.o.box 5 rfl) (by kernel_rfl)) (J.resBox rfl (E.o.box 4 rfl) (by kernel_rfl)) (J.res rfl) ?_;replace E:=E.pks [2];obtain ⟨hfa, hfb⟩ := hf1 hok1;have hT : Q0 q0.d t x many = ⟨zt1.st, t, false⟩ := by unfold Q0; rw [if_neg (by omega), ← hr1, hok1, if_neg Bool.false_ne_true]
 exact ⟨zq1, _, hT.symm, hq1, fun _ => ⟨hfa, hfb⟩, fun h => (nomatch h), by rw [hfa, Zcc hq hfb] <;> rfl, (E.o.erS [7,6,5,4,3,2,1])⟩;have hok1 : zt1.ok = true := by simpa using cc2
 refine xcf rfl<|xsk<|xet<|xsq<|xsr<|xr 2 rfl<|xne<|xbl ?_;replace E:=E.pks [1,2];intro a J;refine Zt (ι := Nat) (fun i a w => ∃ (q2 : SQ), (many ≤ i ∧ i ≤ 16 ∧ Qp ((Zo x).drop i) q2.d = Qp ((Zo x).drop many) zq1.d ∧ Vo (i + 5) q2.d) ∧ Fr 51 a [(2, .int .i64 (many : Int)), (3, .pointer (some ⟨b1, 0, none⟩)), (4, .pointer (some ⟨b2, 0, none⟩)), (6, .pointer (some ⟨b3, 0, none⟩)), (7, .pointer (some ⟨b4, 0, none⟩)), (9, .slice ao5 ((Zo x).length) cp5), (10, .pointer (some ⟨b6, 0, none⟩)), (11, .pointer (some ⟨b7, 0, none⟩)), (13, .int .i64 (i : Int))] ∧ St w0 (SQ.asr q2 :: boxA b6 8 44 (q2.u) :: boxA b7 7 26 (tV zt1.t) :: Zg PtrD.cells 5 24 (.slice ao5 ((Zo x).length) cp5) (Zo x) :: boxA b4 7 26 (az7) :: boxA b3 8 44 (az8) :: boxA b2 7 26 (tV t) :: boxA b1 8 44 (q0.u) :: F) w) (fun i => 16 - i) many ⟨zq1, ⟨Nat.le_refl _, by omega, rfl, (hW1 hok1).more (by omega)⟩, J.less _ ⟨rfl, rfl, rfl, rfl, rfl, rfl, rfl, rfl, rfl, trivial⟩, E.o⟩ ?_;clear J E; clear a;rintro i a w17 ⟨q2, ⟨hmi, hi, hfr, hW⟩, J, E⟩;replace E := Bx.mk E;revert a;refine xsq<|xsr<|xr 2 rfl<|xy rfl (vn 24 5 rfl)<|xr 1 rfl<|xne<|xcd 40 rfl (fun _ dcc3=>?_) fun _ dcc3=>?_
 refine xct rfl<|xsk<|xet<|xsq<|xbl ?_;obtain ⟨g8, rfl, _, _, _, _⟩ := E.o.rowOpen 3 rfl (by omega);refine hld [1,0] E ?_;clear E;intro w18 E M;refine Hp 1 E rfl<|Hp 2 E rfl<|xhy 3 E.o rfl rfl (fun E=>vx 24 i 5 rfl)<|xhy 4 E.o rfl rfl (fun E a J=>ylr (cs := pL ((Zo x).getD i PtrD.zero)) rfl (J.ev rfl) (E.elem PtrD.cells_len 1 rfl (Zi (xs := (Zo x)) (j := i) (d := PtrD.zero) (by omega)))) ?_;refine Zk 0 ?_;refine yoy E (fun a J=>ylr (cs := q2.l) rfl (J.ev rfl) ((M.o.box 1 rfl).sub 0 8)) ?_;refine Zk 5 ?_;intro a J;replace M:=M.pks [0];revert a;refine yo (JI w0 _ q2 ((Zo x).getD i PtrD.zero) (i + 5) _ (hwo _ (YN (by omega))) hW (by omega) M.o) func151 ?_;rintro _ w21 ⟨zq3, hq3, rfl, hs1⟩;refine ⟨_, rfl, ?_⟩; replace M := Bx.mk hs1;clear hs1;intro a J;replace M:=M.nm;clear E;have E:=M.ers [1,0];refine ⟨E.o, ?_⟩;revert a;refine Zk 6 ?_;refine yos 1 [1,0] M ?_;clear E M;intro w22 E M;refine hdn ?_;replace E := M; clear M;refine xeb<|xet<|xrl<|xr 1 rfl<|xy rfl (vad rfl)<|xr 1 rfl<|xne ?_;have hst := Zcd (s := q2.d) (show i < (Zo x).length by omega); rw [← hq3] at hst;intro a J;exact ⟨i + 1, ⟨_, ⟨by omega, by omega, hst.symm.trans hfr, by rw [show i + 1 + 5 = i + 5 + 1 by omega]; exact hq3 ▸ hW.free (hwo _ (YN (by omega)))⟩, J.less _ ⟨rfl, rfl, rfl, rfl, rfl, rfl, rfl, rfl, rfl, trivial⟩, E.o⟩, (by omega)⟩;refine xcf rfl<|xex<|xtx<|xtx<|xbh<|xet<|xsq ?_;refine hld [5,4] E ?_;clear E;intro w23 E M;refine Hw 0 1 8 E rfl rfl<|Hw 1 2 7 E rfl rfl ?_;refine Zk 2 ?_;refine yos 5 [5,4] M ?_;clear E M;intro w24 E M;refine Zk 3 ?_;refine yos 4 [5,4] M ?_;clear E M;intro w25 E M;refine Hp 4 E rfl ?_;refine hdn ?_;replace E := M; clear M;refine xet<|xre ?_;intro a J;refine Zx J results159 (J.resBox rfl (E.o.box 5 rfl) (by kernel_rfl)) (J.resBox rfl (E.o.box 4 rfl) (by kernel_rfl)) (J.res rfl) ?_;replace E:=E.pks [0];have hT : Q0 q0.d t x many = ⟨q2.d, zt1.t, true⟩ := by unfold Q0; rw [if_neg (by omega), ← hr1, hok1, if_pos rfl, ← hq1, ← hfr, List.drop_of_length_le (by omega)]; rfl
 exact ⟨q2, _, hT.symm, rfl, fun h => (nomatch h), fun _ => hW.more (by omega), rfl, (E.o.erS [7,6,5,4,3,2,1])⟩
noncomputable def innL (st : Za) : Nat → PtrD → List PtrD
 | 0, _ => []
 | n + 1, p => bif p.hole then [] else p :: ((kids st p ((n + 1 : Nat) : Int)).getD []).flatMap (innL st n)
theorem U4 {st : Za} {p : PtrD} (h : p.hole = true) : ∀ n, innL st n p = []
 | 0 => rfl
 | n + 1 => by unfold innL; rw [h]; rfl
theorem Xy {st : Za} {p : PtrD} {n : Nat} {l : List PtrD} (h : p.hole = false) (hk : kids st p ((n + 1 : Nat) : Int) = some l) : innL st (n + 1) p = p :: l.flatMap (innL st n) := by
 show (bif p.hole then [] else p :: ((kids st p ((n + 1 : Nat) : Int)).getD []).flatMap (innL st n)) = _;rw [h, hk]; rfl
theorem Zce {p : PtrD} (h : p.hole = true) {i : Nat} (hi : 8 ≤ i) : cnt [p] i = 0 := UY (fun q hq => by rw [mem_singleton.1 hq]; exact h) hi
theorem ZhN {f g h : PtrD → List PtrD} {i : Nat} : ∀ {l : List PtrD}, (∀ q ∈ l, cnt (f q) i = cnt (g q) i + cnt (h q) i) → cnt (l.flatMap f) i = cnt (l.flatMap g) i + cnt (l.flatMap h) i
 | [], _ => rfl
 | q :: r, e => by
  rw [flatMap_cons, flatMap_cons, flatMap_cons, Zj, Zj, Zj, e q (mem_cons_self ..), ZhN fun x hx => e x (mem_cons_of_mem _ hx)]
  omega
theorem ZjJ (n i : Nat) (hi : 8 ≤ i) : cnt (replicate n PtrD.zero) i = 0 := UY (fun q hq => by rw [(List.mem_replicate.1 hq).2]; rfl) hi
theorem Zes {st : Za} : ∀ {n : Nat} {p : PtrD}, Wf st n p → ∀ i, 8 ≤ i → cnt (allL st n p) i = cnt (innL st n p) i + cnt (lvL st n p) i
 | 0, p, _, i, hi => by
  show cnt (allL st 0 p) i = cnt [] i + cnt [p] i
  cases hh : p.hole with
  | true => rw [ZW hh, Zce hh hi]; rfl
  | false => rw [QB hh, Jy, Nat.zero_add]
 | n + 1, p, ⟨ho, hb, l, hk, hw⟩, i, hi => by
  cases hh : p.hole with
  | true => rw [ZW hh, U4 hh, ZbZ hh, ZjJ _ _ hi, Jy]
  | false =>
   rw [Y0 hh hk, Xy hh hk, QV hk, Y4, Y4, ZhN fun q hq => Zes (hw q hq) i hi]
   omega
theorem ZhO {st : Za} : ∀ {n : Nat} {p : PtrD}, Wf st n p → ∀ q ∈ innL st n p, q ∈ allL st n p
 | 0, p, _, q, hq => by cases hq
 | n + 1, p, ⟨ho, hb, l, hk, hw⟩, q, hq => by
  cases hh : p.hole with
  | true => rw [U4 hh] at hq; cases hq
  | false =>
   rw [Xy hh hk] at hq;rw [Y0 hh hk];rcases mem_cons.1 hq with rfl | hq
   ·exact mem_cons_self ..
   ·obtain ⟨k, hkl, hq⟩ := mem_flatMap.1 hq
    exact mem_cons_of_mem _ (mem_flatMap.2 ⟨k, hkl, ZhO (hw k hkl) q hq⟩)
theorem ZjK {st : Za} : ∀ {n : Nat} {p : PtrD}, Wf st n p → ∀ q ∈ lvL st n p, q.hole = true ∨ q ∈ allL st n p
 | 0, p, _, q, hq => by
  rw [show lvL st 0 p = [p] from rfl, mem_singleton] at hq;subst hq
  cases hh : q.hole with
  | true => exact .inl rfl
  | false => rw [QB hh]; exact .inr (mem_singleton.2 rfl)
 | n + 1, p, ⟨ho, hb, l, hk, hw⟩, q, hq => by
  cases hh : p.hole with
  | true => rw [ZbZ hh] at hq; rw [(List.mem_replicate.1 hq).2]; exact .inl rfl
  | false =>
   rw [QV hk] at hq;obtain ⟨k, hkl, hq⟩ := mem_flatMap.1 hq;rcases ZjK (hw k hkl) q hq with h | h
   ·exact .inl h
   ·rw [Y0 hh hk]; exact .inr (mem_cons_of_mem _ (mem_flatMap.2 ⟨k, hkl, h⟩))
theorem Zcf {st : Za} {n : Nat} {p : PtrD} (h : Wf st (n + 1) p) : ∃ l, kidsS st p ((n + 1 : Nat) : Int) = some l ∧ kids st p ((n + 1 : Nat) : Int) = some l ∧ ∀ k ∈ l, Wf st n k := by
 obtain ⟨ho, hb, l, hk, hw⟩ := h;exact ⟨l, by rw [JZ ho hb]; exact hk, hk, hw⟩
theorem ZjL {st : Za} {n : Nat} : ∀ {l : List PtrD}, (∀ p ∈ l, Wf st (n + 1) p) → YU (fun p => kidsS st p ((n + 1 : Nat) : Int)) l = some (l.flatMap fun p => (kids st p ((n + 1 : Nat) : Int)).getD []) ∧ ∀ q ∈ (l.flatMap fun p => (kids st p ((n + 1 : Nat) : Int)).getD []), Wf st n q
 | [], _ => ⟨rfl, fun q hq => nomatch hq⟩
 | p :: r, h => by
  obtain ⟨l, h1, h2, h3⟩ := Zcf (h p (mem_cons_self ..));obtain ⟨e, hw⟩ := ZjL fun q hq => h q (mem_cons_of_mem _ hq)
  refine ⟨by rw [Zat h1, e, flatMap_cons, h2]; rfl, fun q hq => ?_⟩;rw [flatMap_cons, h2] at hq;rcases mem_append.1 hq with hq | hq
  ·exact h3 q hq
  ·exact hw q hq
theorem Zet {st : Za} : ∀ l : List PtrD, l.flatMap (lvL st 0) = l
 | [] => rfl
 | q :: r => by rw [flatMap_cons, Zet r]; rfl
theorem ZfL (f g : PtrD → List PtrD) : ∀ l : List PtrD, (l.flatMap f).flatMap g = l.flatMap fun p => (f p).flatMap g
 | [] => rfl
 | q :: r => by rw [flatMap_cons, flatMap_append, flatMap_cons, ZfL f g r]
theorem ZjM {st : Za} : ∀ {n : Nat} {l : List PtrD}, (∀ p ∈ l, Wf st n p) → downL (kidsS st) n l = some (l.flatMap (lvL st n))
 | 0, l, _ => by
  show some l = _
  congr 1
  exact (Zet l).symm
 | n + 1, l, h => by
  obtain ⟨e, hw⟩ := ZjL h;rw [JG e, ZjM hw, ZfL]
  rfl
section
variable {st0 : Za} {inn R A : List PtrD} {n : Nat}
theorem ZkN {back : List PtrD} {m : Nat} (h : back.length = 4 * (m + 1)) : (back.take 4).length = 4 ∧ (back.drop 4).length = 4 * m := by
 rw [length_take, length_drop]; omega
def ZjN (st0 : Za) (inn : List PtrD) (n : Nat) (w : PtrD) : Prop := w.hole = true ∨ (w.hole = false ∧ Wf st0 (n + 1) w ∧ w ∈ inn)
theorem Zcg (hn : n + 1 ≤ 2) : ∀ {m : Nat} {L W next back was stays : List PtrD} {st : Za} {N : List PtrD}, LayI st0 inn R A L n W next back stays st N → back.length = 4 * m → m ≤ was.length → (∀ w ∈ was, ZjN st0 inn n w) →
  ((Xb ((n + 1 : Nat) : Int) m back was st next stays).ok = true → ∃ N', LayI st0 inn R A L n (W ++ was.take m) (Xb ((n + 1 : Nat) : Int) m back was st next stays).next [] (Xb ((n + 1 : Nat) : Int) m back was st next stays).stays (Xb ((n + 1 : Nat) : Int) m back was st next stays).st N' ∧ (Xb ((n + 1 : Nat) : Int) m back was st next stays).next.length = next.length + m) ∧
  ((Xb ((n + 1 : Nat) : Int) m back was st next stays).ok = false → ∃ N', Inv (Xb ((n + 1 : Nat) : Int) m back was st next stays).st (N' ++ (inn ++ R)) ∧ Z5 st0 (Xb ((n + 1 : Nat) : Int) m back was st next stays).st (inn ++ R))
 | 0, L, W, next, back, was, stays, st, N, h, hb, _, _ => by
  obtain rfl : back = [] := List.length_eq_zero_iff.1 (by omega);rw [ZkD, List.take_zero, append_nil];exact ⟨fun _ => ⟨N, h, rfl⟩, fun e => by cases e⟩
 | m + 1, L, W, next, back, was, stays, st, N, h, hb, hw, hwo => by
  obtain ⟨w, wr, rfl⟩ : ∃ w wr, was = w :: wr := by
   cases was with
   | nil => simp at hw
   | cons w wr => exact ⟨w, wr, rfl⟩
  obtain ⟨hc4, hb4⟩ := ZkN hb;have hsplit : back = back.take 4 ++ back.drop 4 := (List.take_append_drop 4 back).symm;rw [hsplit] at h;have hco : ∀ p ∈ back.take 4, p.ok = true := fun p hp => (h.wfb p (mem_append_left _ hp)).ok.1
  have hok := h.inv.ok;have hwo1 := hwo w (mem_cons_self ..);have hwr : ∀ x ∈ wr, ZjN st0 inn n x := fun x hx => hwo x (mem_cons_of_mem _ hx)
  have hlw : m ≤ wr.length := by simpa using hw
  -- the step
  have key : ∀ {s : Za} {p : PtrD} {N' : List PtrD}, Yh st (back.take 4) ((n + 1 : Nat) : Int) w = ⟨s, p, true⟩ → LayI st0 inn R A L n (W ++ [w]) (next ++ [p]) (back.drop 4) (QX stays p w) s N' →
    ((Xb ((n + 1 : Nat) : Int) (m + 1) back (w :: wr) st next stays).ok = true → ∃ N', LayI st0 inn R A L n (W ++ (w :: wr).take (m + 1)) (Xb ((n + 1 : Nat) : Int) (m + 1) back (w :: wr) st next stays).next [] (Xb ((n + 1 : Nat) : Int) (m + 1) back (w :: wr) st next stays).stays (Xb ((n + 1 : Nat) : Int) (m + 1) back (w :: wr) st next stays).st N' ∧ (Xb ((n + 1 : Nat) : Int) (m + 1) back (w :: wr) st next stays).next.length = next.length + (m + 1)) ∧
    ((Xb ((n + 1 : Nat) : Int) (m + 1) back (w :: wr) st next stays).ok = false → ∃ N', Inv (Xb ((n + 1 : Nat) : Int) (m + 1) back (w :: wr) st next stays).st (N' ++ (inn ++ R)) ∧ Z5 st0 (Xb ((n + 1 : Nat) : Int) (m + 1) back (w :: wr) st next stays).st (inn ++ R)) := fun {s p N'} hf hl => by
   have ih := Zcg hn hl hb4 hlw hwr;have e : Xb ((n + 1 : Nat) : Int) (m + 1) back (w :: wr) st next stays = Xb ((n + 1 : Nat) : Int) m (back.drop 4) wr s (next ++ [p]) (QX stays p w) := ZhI hf;rw [e];refine ⟨fun ho => ?_, ih.2⟩;obtain ⟨N2, h2, h3⟩ := ih.1 ho;refine ⟨N2, ?_, by rw [h3, length_append, length_singleton]; omega⟩;rw [List.take_succ_cons, show W ++ w :: wr.take m = (W ++ [w]) ++ wr.take m by simp];exact h2
  cases ha : (back.take 4).all (fun p => p.hole) with
  | true => exact key (Vm ha) (h.hole hc4 ha w)
  | false =>
   have hfan : ∀ s, fanB (back.take 4) = s → IsFan s (back.take 4) := fun s e => ⟨hc4, hco, ha, e⟩
   cases hs : Xn st (back.take 4) w with
   | true =>
    have hs2 := hs;unfold Xn at hs2;simp only [Bool.and_eq_true, Bool.not_eq_true'] at hs2;rcases hwo1 with hw1 | ⟨hw1, hw2, hw3⟩
    ·rw [hw1] at hs2; exact absurd hs2.1 (by decide)
    ·exact key (Vn ha hs) (h.reuse (hfan _ (Qg hs2.2.2).symm) hw1 hw2 hw3)
   | false =>
    by_cases hi : writeAt st (fanB (back.take 4)) ((n + 1 : Nat) : Int) < 64
    ·exact key (Zda ha hs hi rfl) (h.fresh (hfan _ rfl) (Zb9 hc4 hco) hn hi rfl w)
    ·have e : Xb ((n + 1 : Nat) : Int) (m + 1) back (w :: wr) st next stays = ⟨st, next, stays, false⟩ := ZjF (p := PtrD.zero) (Zej ha hs (by have := J9 st (fanB (back.take 4)) ((n + 1 : Nat) : Int); omega))
     rw [e];exact ⟨fun e => (nomatch e), fun _ => ⟨N, h.inv, h.kp⟩⟩
end
theorem Zbm {st : Za} {l : List PtrD} (h : ∀ q ∈ l, Wf st 1 q) : l.flatMap (innL st 1) = l.filter fun q => !q.hole := by
 induction l with
 | nil => rfl
 | cons q r ih =>
  rw [flatMap_cons, ih fun x hx => h x (mem_cons_of_mem _ hx), List.filter_cons];obtain ⟨_, _, m, hk, _⟩ := h q (mem_cons_self ..)
  cases hh : q.hole with
  | true => rw [U4 hh]; rfl
  | false =>
   rw [Xy hh hk, show m.flatMap (innL st 0) = [] by rw [List.flatMap_eq_nil_iff]; intro _ _; rfl]; rfl
theorem ZkO {st : Za} {t : Ze} {d : Nat} (hd : t.aw = (d : Int)) (h2 : d ≤ 2) (hw : Wf st d t.af) : ZH st t = innL st d t.af := by
 unfold ZH;rcases (by omega : d = 0 ∨ d = 1 ∨ d = 2) with rfl | rfl | rfl
 ·rw [if_pos (.inl (by omega))]; rfl
 ·cases hh : t.af.hole with
  | true => rw [if_pos (.inr rfl), U4 hh]
  | false =>
   obtain ⟨_, _, m, hk, _⟩ := hw;rw [if_neg (fun h => h.elim (fun h => by omega) (fun h => by cases h)), if_neg (by omega), Xy hh hk, show m.flatMap (innL st 0) = [] by rw [List.flatMap_eq_nil_iff]; intro _ _; rfl]
 ·cases hh : t.af.hole with
  | true => rw [if_pos (.inr rfl), U4 hh]
  | false =>
   obtain ⟨m, hks, hk, hm⟩ := Zcf hw;rw [if_neg (fun h => h.elim (fun h => by omega) (fun h => by cases h)), if_pos (by omega), Xy hh hk, Zbm hm, show kidsS st t.af 2 = some m from hks]; rfl
theorem Zeu {st s : Za} {t : Ze} {d0 d lv : Nat} (hd0 : t.aw = (d0 : Int)) (h2 : d0 ≤ 2) (hw : Wf st d0 t.af) {Y : List PtrD} (hk : Z5 st s Y) (hY : ∀ q ∈ innL st d0 t.af, q ∈ Y) (h1 : 1 ≤ lv) (hl : lv ≤ d) :
  Ye s t d lv = Ye st t d lv ∧ ∀ w ∈ Ye st t d lv, ZjN st (innL st d0 t.af) (lv - 1) w := by
 have hz : ∀ w ∈ YL, ZjN st (innL st d0 t.af) (lv - 1) w := fun w hw => by
  simp only [YL, mem_cons, List.not_mem_nil, or_false, or_self] at hw;rw [hw]; exact .inl rfl
 unfold Ye
 by_cases e : t.aw = (d : Int)
 ·obtain rfl : d0 = d := by omega
  rw [if_pos e, if_pos e]
  by_cases e2 : lv = d0
  ·rw [if_pos e2, if_pos e2]
   refine ⟨rfl, fun w hwm => ?_⟩;rw [mem_singleton.1 hwm];obtain ⟨n, rfl⟩ : ∃ n, d0 = n + 1 := ⟨d0 - 1, by omega⟩
   cases hh : t.af.hole with
   | true => exact .inl hh
   | false =>
    have hw2 := hw;obtain ⟨_, _, m, hk2, _⟩ := hw2;exact .inr ⟨hh, by rw [show lv - 1 + 1 = n + 1 by omega]; exact hw, by rw [Xy hh hk2]; exact mem_cons_self ..⟩
  ·rw [if_neg e2, if_neg e2]
   obtain rfl : d0 = 2 := by omega
   obtain rfl : lv = 1 := by omega
   obtain ⟨m, hks, hkk, hm⟩ := Zcf hw;have hks : kidsS st t.af ((2 : Nat) : Int) = some m := hks;have hss : kidsS s t.af ((2 : Nat) : Int) = some m := by
    cases hh : t.af.hole with
    | true => rw [JY hh] at hks ⊢; exact hks
    | false =>
     have hrow := hk.row t.af (hY _ (by rw [Xy hh hkk]; exact mem_cons_self ..)) hw.ok.1 hh;rw [← hks];unfold kidsS;rw [ZbY fun _ => hrow, hk.txg]
   rw [hks, hss];refine ⟨rfl, fun w hwm => ?_⟩
   cases hh : t.af.hole with
   | true =>
    rw [JY hh] at hks;obtain rfl := Option.some.inj hks;exact hz w hwm
   | false =>
    cases hwh : w.hole with
    | true => exact .inl hwh
    | false =>
     refine .inr ⟨hwh, hm w hwm, ?_⟩;rw [Xy hh hkk, Zbm hm];exact mem_cons_of_mem _ (List.mem_filter.2 ⟨hwm, by rw [hwh]; rfl⟩)
 ·rw [if_neg e, if_neg e]
  exact ⟨rfl, hz⟩
theorem Xj.sub {a b : List PtrD} (h : a.Sublist b) : Xj a b := fun f i _ => Zgu (h.filter f) i
theorem Vp (m : Nat) : ∀ q ∈ YL.take m, q.hole = true := fun q hq => by
 have := List.mem_of_mem_take hq;simp only [YL, mem_cons, List.not_mem_nil, or_false, or_self] at this;rw [this]; rfl
theorem ZmE {st : Za} {t : Ze} {d0 : Nat} (hd0 : t.aw = (d0 : Int)) (h2 : d0 ≤ 2) (hw : Wf st d0 t.af) (m : Nat) : Xj ((Ye st t 1 1).take m) (innL st d0 t.af) := by
 unfold Ye
 by_cases e : t.aw = ((1 : Nat) : Int)
 ·obtain rfl : d0 = 1 := by omega
  rw [if_pos e, if_pos rfl];refine (Xj.sub (List.take_sublist ..)).trans ?_
  cases hh : t.af.hole with
  | true => exact Xj.holes fun q hq => by rw [mem_singleton.1 hq]; exact hh
  | false =>
   obtain ⟨_, _, l, hk, _⟩ := hw;rw [Xy hh hk];exact Xj.sub (List.singleton_sublist.2 (mem_cons_self ..))
 ·rw [if_neg e]; exact Xj.holes (Vp m)
theorem ZmF {st : Za} {t : Ze} {d0 : Nat} (hd0 : t.aw = (d0 : Int)) (h2 : d0 ≤ 2) (hw : Wf st d0 t.af) (m k : Nat) : Xj ((Ye st t 2 1).take m ++ (Ye st t 2 2).take k) (innL st d0 t.af) := by
 unfold Ye
 by_cases e : t.aw = ((2 : Nat) : Int)
 ·obtain rfl : d0 = 2 := by omega
  rw [if_pos e, if_pos e, if_neg (by omega), if_pos rfl];obtain ⟨l, hks, hkk, hm⟩ := Zcf hw;rw [show kidsS st t.af ((2 : Nat) : Int) = some l from hks];refine ((Xj.sub (List.take_sublist ..)).app (Xj.sub (List.take_sublist ..))).trans ?_
  cases hh : t.af.hole with
  | true =>
   rw [JY hh] at hks;obtain rfl := Option.some.inj hks;refine Xj.holes fun q hq => ?_;rcases mem_append.1 hq with hq | hq
   ·simp only [getD_some, YL, mem_cons, List.not_mem_nil, or_false, or_self] at hq
    rw [hq]; rfl
   ·rw [mem_singleton.1 hq]; exact hh
  | false =>
   rw [Xy hh hkk, Zbm hm];refine ((Xj.some l).app (Xj.refl [t.af])).trans ?_;exact Xj.swap _ _
 ·rw [if_neg e, if_neg e]
  refine Xj.holes fun q hq => ?_;rcases mem_append.1 hq with hq | hq
  ·exact Vp _ q hq
  ·exact Vp _ q hq
theorem ZcJ {sy : List PtrD} : ∀ {inn Y : List PtrD} {s : Za}, Inv s (inn ++ Y) → (∀ p ∈ inn, p.ok = true) → Inv (Vz sy inn s) (inn.filter (Jk sy) ++ Y) ∧ Z5 s (Vz sy inn s) (inn.filter (Jk sy) ++ Y)
 | [], Y, s, h, _ => ⟨h, Z5.refl _ _⟩
 | p :: r, Y, s, h, ho => by
  have hor : ∀ q ∈ r, q.ok = true := fun q hq => ho q (mem_cons_of_mem _ hq)
  rw [List.filter_cons];show Inv (Vz sy r (if Jk sy p = true then s else s.free p)) _ ∧ Z5 s (Vz sy r (if Jk sy p = true then s else s.free p)) _
  cases hk : Jk sy p with
  | true =>
   rw [if_pos rfl, if_pos rfl];have h2 : Inv s (r ++ (p :: Y)) := h.mono fun i _ _ => by
    rw [cons_append, Y4, Zj, Zj, Y4]; omega
   obtain ⟨i1, i2⟩ := ZcJ (sy := sy) h2 hor;refine ⟨i1.mono fun i _ _ => ?_, i2.mono fun q hq => ?_⟩
   ·rw [cons_append, Y4, Zj, Zj, Y4]; omega
   ·rw [cons_append] at hq
    rcases mem_cons.1 hq with rfl | hq
    ·exact mem_append_right _ (mem_cons_self ..)
    ·rcases mem_append.1 hq with hq | hq
     ·exact mem_append_left _ hq
     ·exact mem_append_right _ (mem_cons_of_mem _ hq)
  | false =>
   rw [if_neg Bool.false_ne_true, if_neg Bool.false_ne_true];obtain ⟨j1, j2⟩ := Inv.free (X := r ++ Y) (by rw [cons_append] at h; exact h) (ho p (mem_cons_self ..));obtain ⟨i1, i2⟩ := ZcJ (sy := sy) j1 hor;refine ⟨i1, (j2.mono fun q hq => ?_).trans i2⟩;rcases mem_append.1 hq with hq | hq
   ·exact mem_append_left _ (List.mem_filter.1 hq).1
   ·exact mem_append_right _ hq
theorem ZmG {r : Zdk} (h : r.ok = true) : (⟨r.st, r.next, r.stays, true⟩ : Zdk) = r := by
 cases r; cases h; rfl
theorem ZfM {t : Ze} {d lv : Nat} {st : Za} {list stays : List PtrD} : XR t d 1 lv st list stays = Xb (lv : Int) ((XK list).length / 4) (XK list) (Ye st t d lv) st [] stays := by
 rw [XR]
 split
 ·rename_i hk; rw [ZcH]; exact ZmG hk
 ·rfl
theorem ZmH {st : Za} {t : Ze} {d0 : Nat} {R A cs : List PtrD} (hd0 : t.aw = (d0 : Int)) (h2 : d0 ≤ 2) (hw : Wf st d0 t.af) (hI : Inv st (innL st d0 t.af ++ R)) (hcs : ∀ p ∈ cs, Wf st 0 p) (hc : ∀ i, 8 ≤ i → i < 64 → cnt cs i ≤ cnt A i) (hm : ∀ q ∈ cs, q.hole = true ∨ q ∈ R) {d : Nat} (hd : d = depthN (cs.length : Int)) (hl : cs.length ≤ 16) :
  ((XR t d d 1 st cs []).ok = true → ∃ N z W, LayI st (innL st d0 t.af) R A (cs ++ replicate z PtrD.zero) d W [] (XR t d d 1 st cs []).next (XR t d d 1 st cs []).stays (XR t d d 1 st cs []).st N ∧ Xj W (innL st d0 t.af) ∧ (XR t d d 1 st cs []).next.length = (if d = 0 then cs.length else 1)) ∧
  ((XR t d d 1 st cs []).ok = false → ∃ N', Inv (XR t d d 1 st cs []).st (N' ++ (innL st d0 t.af ++ R)) ∧ Z5 st (XR t d d 1 st cs []).st (innL st d0 t.af ++ R)) := by
 have hS := LayI.start hI hcs hc hm;have hdd : d ≤ 2 := hd ▸ YV _;rcases (by omega : d = 0 ∨ d = 1 ∨ d = 2) with e | e | e <;> subst e
 ·rw [ZcH]
  exact ⟨fun _ => ⟨[], 0, [], by rw [List.replicate_zero, append_nil]; exact hS, Xj.nil _, rfl⟩, fun e => nomatch e⟩
 ·have hb : 2 ≤ cs.length ∧ cs.length ≤ 4 := by
   unfold depthN at hd; split at hd
   ·omega
   ·split at hd <;> omega
  have hpl := V9 cs;have hp4 : (XK cs).length = 4 * 1 := by omega
  have h1 := hS.pad ((4 - cs.length % 4) % 4);rw [show cs ++ replicate ((4 - cs.length % 4) % 4) PtrD.zero = XK cs from rfl] at h1;obtain ⟨ho, hwo⟩ := Zeu (s := st) (d := 1) (lv := 1) hd0 h2 hw (Z5.refl _ _) (fun q hq => hq) (Nat.le_refl _) (Nat.le_refl _);have hl1 : 1 ≤ (Ye st t 1 1).length := by unfold Ye; split <;> simp [YL]
  obtain ⟨i1, i2⟩ := Zcg (by omega) h1 hp4 hl1 hwo;have e : (XK cs).length / 4 = 1 := by omega
  have hU : XR t 1 1 1 st cs [] = Xb ((0 + 1 : Nat) : Int) 1 (XK cs) (Ye st t 1 1) st [] [] := by rw [ZfM, e]
  rw [hU];refine ⟨fun hk => ?_, i2⟩;obtain ⟨N', h3, h4⟩ := i1 hk;exact ⟨N', _, _, h3.turn, by rw [nil_append]; exact ZmE hd0 h2 hw 1, h4⟩
 ·have hb : 5 ≤ cs.length := by
   unfold depthN at hd; split at hd
   ·omega
   ·split at hd <;> omega
  have hpl := V9 cs;obtain ⟨m, hm1⟩ : ∃ m, (XK cs).length = 4 * m := ⟨(cs.length + 3) / 4, by omega⟩;have hm4 : 2 ≤ m ∧ m ≤ 4 := by omega
  have h1 := hS.pad ((4 - cs.length % 4) % 4);rw [show cs ++ replicate ((4 - cs.length % 4) % 4) PtrD.zero = XK cs from rfl] at h1;obtain ⟨ho, hwo⟩ := Zeu (s := st) (d := 2) (lv := 1) hd0 h2 hw (Z5.refl _ _) (fun q hq => hq) (Nat.le_refl _) (by omega);have h4l : ∀ k, ((kidsS st t.af k).getD YL).length = 4 := fun k => by
   cases h : kidsS st t.af k with
   | none => rfl
   | some l => exact Qd h
  have hl1 : (Ye st t 2 1).length = 4 := by
   unfold Ye; split
   ·rw [if_neg (by omega), h4l]
   ·rfl
  obtain ⟨i1, i2⟩ := Zcg (by omega) h1 hm1 (by omega) hwo;have e : (XK cs).length / 4 = m := by omega
  cases hk : (Xb ((0 + 1 : Nat) : Int) m (XK cs) (Ye st t 2 1) st [] []).ok with
  | false =>
   have hU : XR t 2 2 1 st cs [] = Xb ((0 + 1 : Nat) : Int) m (XK cs) (Ye st t 2 1) st [] [] := by
    rw [XR, e, if_neg (by rw [hk]; exact Bool.false_ne_true)]
   rw [hU];exact ⟨fun e => (by rw [hk] at e; cases e), i2⟩
  | true =>
   obtain ⟨N', h3, h4⟩ := i1 hk;generalize hr1 : Xb ((0 + 1 : Nat) : Int) m (XK cs) (Ye st t 2 1) st [] [] = r1 at hk h3 h4;have hU : XR t 2 2 1 st cs [] = XR t 2 1 2 r1.st r1.next r1.stays := by
    rw [XR, e, if_pos (by rw [hr1]; exact hk), hr1]
   have h5 := h3.turn;have hnl : r1.next.length = m := by simpa using h4
   have hpl2 := V9 r1.next;have hp4 : (XK r1.next).length = 4 * 1 := by omega
   have h6 := h5.pad ((4 - r1.next.length % 4) % 4);rw [show r1.next ++ replicate ((4 - r1.next.length % 4) % 4) PtrD.zero = XK r1.next from rfl] at h6;obtain ⟨ho2, hwo2⟩ := Zeu (s := r1.st) (d := 2) (lv := 2) hd0 h2 hw h3.kp (fun q hq => mem_append_left _ hq) (by omega) (Nat.le_refl _);have hl2 : 1 ≤ (Ye st t 2 2).length := by unfold Ye; split <;> simp [YL]
   obtain ⟨k1, k2⟩ := Zcg (by omega) h6 hp4 (show 1 ≤ (Ye r1.st t 2 2).length by rw [ho2]; exact hl2) (by rw [ho2]; exact hwo2);have e2 : (XK r1.next).length / 4 = 1 := by omega
   have hU2 : XR t 2 1 2 r1.st r1.next r1.stays = Xb ((1 + 1 : Nat) : Int) 1 (XK r1.next) (Ye r1.st t 2 2) r1.st [] r1.stays := by rw [ZfM, e2]
   rw [hU, hU2];refine ⟨fun hk2 => ?_, k2⟩;obtain ⟨N2, h7, h8⟩ := k1 hk2;refine ⟨N2, (4 - cs.length % 4) % 4 * 4 ^ 0 + (4 - r1.next.length % 4) % 4 * 4 ^ 1, ([] ++ (Ye st t 2 1).take m) ++ (Ye r1.st t 2 2).take 1, ?_, ?_, h8⟩
   ·have h9 := h7.turn
    rw [List.append_assoc, List.replicate_append_replicate] at h9;exact h9
   ·rw [ho2, nil_append]; exact ZmF hd0 h2 hw m 1
theorem Zdm {a : List PtrD} {f : PtrD → Bool} (h : ∀ q ∈ a, f q = true) : a.filter f = a := List.filter_eq_self.2 h
structure ZoI (st : Za) (cs R Q : List PtrD) (many : Nat) (r : UZ) : Prop where
  t : r.t.aw = ((depthN (many : Int) : Nat) : Int) ∧ r.t.ai = (many : Int)
  wf : Wf r.st (depthN (many : Int)) r.t.af
  lv : ∃ z, lvL r.st (depthN (many : Int)) r.t.af = cs ++ replicate z PtrD.zero
  inv : Inv r.st (allL r.st (depthN (many : Int)) r.t.af ++ Q)
  kp : Z5 st r.st R
theorem ZhP {st : Za} {t : Ze} {d0 : Nat} {R Q cs leaves : List PtrD} (hd0 : t.aw = (d0 : Int)) (h2 : d0 ≤ 2) (hw : Wf st d0 t.af) (hI : Inv st (innL st d0 t.af ++ R)) {many : Nat} (hcl : leaves.take many = cs) (hn : cs.length = many) (hl : many ≤ 16) (hcs : ∀ p ∈ cs, Wf st 0 p) (hm : ∀ q ∈ cs, q.hole = true ∨ q ∈ R) (hQ : ∀ i, 8 ≤ i → i < 64 → cnt cs i + cnt Q i ≤ cnt R i) :
  ((XO st t leaves many).ok = true → ZoI st cs R Q many (XO st t leaves many)) ∧ ((XO st t leaves many).ok = false → Inv (XO st t leaves many).st (innL st d0 t.af ++ R) ∧ Z5 st (XO st t leaves many).st (innL st d0 t.af ++ R)) := by
 have hU := ZmH (A := cs) hd0 h2 hw hI hcs (fun i _ _ => Nat.le_refl _) hm (d := depthN (many : Int)) (by rw [hn]) (by omega);have hdd := YV (many : Int);generalize hdn : depthN (many : Int) = d at hU hdd;generalize hr : XR t d d 1 st cs [] = r at hU;have hrt : XR t (depthN (many : Int)) (depthN (many : Int)) 1 st (leaves.take many) [] = r := by rw [hdn, hcl]; exact hr
 have hO := Za.ok_spec hI.ok;have hin := ZkO hd0 h2 hw;obtain ⟨s, ls, sy, ok⟩ := r
 cases ok with
 | false =>
  rw [ZjG hrt];refine ⟨fun e => (nomatch e), fun _ => ?_⟩;obtain ⟨N', i1, i2⟩ := hU.2 rfl;exact ⟨i1.mono fun i _ _ => by rw [Zj N']; omega, i2⟩
 | true =>
  rw [Zek hrt, hdn];refine ⟨fun _ => ?_, fun e => (nomatch e)⟩;obtain ⟨N, z, W, hL, hSW, hlen⟩ := hU.1 rfl;dsimp only at hL hlen;have hio : ∀ p ∈ innL st d0 t.af, p.ok = true := fun p hp => (UR hw p (ZhO hw p hp)).1
  have hI2 : Inv s (innL st d0 t.af ++ (N ++ R)) := hL.inv.mono fun i _ _ => by
   simp only [Zj]; omega
  obtain ⟨f1, f2⟩ := ZcJ (sy := sy) hI2 hio;have hsO := Za.ok_spec hL.inv.ok
  -- the root
  have hroot : ∃ z, Wf s d (ls.headD PtrD.zero) ∧ lvL s d (ls.headD PtrD.zero) = cs ++ replicate z PtrD.zero ∧ (∀ i, 8 ≤ i → i < 64 → cnt (allL s d (ls.headD PtrD.zero)) i ≤ cnt N i + cnt sy i + cnt cs i) ∧ ∀ q ∈ allL s d (ls.headD PtrD.zero), q ∈ N ∨ (q ∈ sy ∧ q ∈ innL st d0 t.af) ∨ q ∈ R := by
   have hlv := hL.lvs; have hac := hL.acc; have hmm := hL.mem; have hwb := hL.wfb;rw [flatMap_nil, nil_append] at hlv;simp only [flatMap_nil, nil_append] at hac hmm
   cases hls : ls with
   | nil =>
    rw [hls] at hlen hlv;have hd0 : d = 0 := by
     by_cases e : d = 0
     ·exact e
     ·rw [if_neg e] at hlen; cases hlen
    subst hd0;rw [if_pos rfl] at hlen;have hcn : cs = [] := List.length_eq_zero_iff.1 hlen.symm;subst hcn;refine ⟨1, Wf.zero (by have := hsO.txg; omega) 0, rfl, fun i h8 _ => ?_, fun q hq => ?_⟩
    ·show cnt (allL s 0 PtrD.zero) i ≤ _
     rw [ZW X9, Jy]; omega
    ·rw [show allL s 0 (([] : List PtrD).headD PtrD.zero) = [] from ZW X9 0] at hq; cases hq
   | cons p r2 =>
    rw [hls] at hlen hlv hac hmm hwb;have hr2 : r2 = [] := by
     have h1 : ∀ k : Nat, (p :: r2).length = k → k ≤ 1 → r2 = [] := fun k hk hk1 => by
      cases r2 with
      | nil => rfl
      | cons _ _ => simp at hk; omega
     refine h1 _ hlen ?_
     split
     ·rename_i e
      have : (many : Int) ≤ 1 := by
       unfold depthN at hdn
       split at hdn
       ·assumption
       ·split at hdn <;> omega
      omega
     ·exact Nat.le_refl _
    subst hr2;refine ⟨z, hwb p (mem_cons_self ..), ?_, fun i h8 hi => ?_, fun q hq => ?_⟩
    ·rw [flatMap_cons, flatMap_nil, append_nil] at hlv; exact hlv
    ·have := hac i h8 hi
     rw [flatMap_cons, flatMap_nil, append_nil] at this; exact this
    ·exact hmm q (by rw [flatMap_cons, flatMap_nil, append_nil]; exact hq)
  obtain ⟨z, hwr, hlr, hcr, hmr⟩ := hroot;have hkept : ∀ q ∈ sy, Jk sy q = true := fun q hq => List.any_eq_true.2 ⟨q, hq, PtrD.eqv_iff.2 rfl⟩
  have hsub : ∀ i, 8 ≤ i → cnt sy i ≤ cnt ((innL st d0 t.af).filter (Jk sy)) i := fun i hi => by
   have h1 := (hL.sty.trans hSW) (Jk sy) i hi
   rwa [Zdm hkept] at h1
  have hmem : ∀ q ∈ allL s d (ls.headD PtrD.zero), q ∈ (innL st d0 t.af).filter (Jk sy) ++ (N ++ R) := fun q hq => by
   rcases hmr q hq with h | ⟨h, h3⟩ | h
   ·exact mem_append_right _ (mem_append_left _ h)
   ·exact mem_append_left _ (List.mem_filter.2 ⟨h3, hkept q h⟩)
   ·exact mem_append_right _ (mem_append_right _ h)
  rw [hin];obtain ⟨w1, w2, w3⟩ := hwr.rows f2.rows hmem;refine ⟨⟨by rw [hdn], rfl⟩, by rw [hdn]; exact w1, ⟨z, by rw [hdn]; exact w3.trans hlr⟩, ?_, ?_⟩
  ·rw [hdn]
   show Inv _ (allL (Vz sy (innL st d0 t.af) s) d (ls.headD PtrD.zero) ++ Q);rw [w2];refine f1.mono fun i h8 hi => ?_;have h1 := hcr i h8 hi; have h3 := hsub i h8; have h4 := hQ i h8 hi;simp only [Zj]; omega
  ·exact (hL.kp.mono fun q hq => mem_append_right _ hq).trans (f2.mono fun q hq => mem_append_right _ (mem_append_right _ hq))
structure TV (st : Za) (t : Ze) : Prop where
  many : 0 ≤ t.ai ∧ t.ai ≤ 16
  dep : t.aw = ((depthN t.ai : Nat) : Int)
  wf : Wf st (depthN t.ai) t.af
  out : ∀ j, t.ai.toNat ≤ j → ((lvL st (depthN t.ai) t.af).getD j PtrD.zero).hole = true
noncomputable def Ze.ps (st : Za) (t : Ze) : List PtrD := lvL st (depthN t.ai) t.af
noncomputable def Ze.all (st : Za) (t : Ze) : List PtrD := allL st (depthN t.ai) t.af
noncomputable def Ze.tx (st : Za) (t : Ze) : List ByteArray := (Zo (t.ps st)).map (Zn st)
theorem TV.len {st : Za} {t : Ze} (h : TV st t) : (t.ps st).length = 4 ^ depthN t.ai ∧ (t.ps st).length ≤ 16 ∧ t.ai.toNat ≤ (t.ps st).length := by
 have h1 := Zgj h.wf;have h2 := Zma (YV t.ai);have h3 := Za2 h.many.2;have e : (t.ps st).length = 4 ^ depthN t.ai := h1;have := h.many;exact ⟨e, by omega, by omega⟩
theorem TV.wide {st : Za} {t : Ze} (h : TV st t) : (Zo (t.ps st)).length = 16 := UQ h.len.2.1
theorem Zac {x : List PtrD} {q : PtrD} (h : q ∈ Zo x) : q ∈ x ∨ q.hole = true := by
 unfold Zo at h;rcases mem_append.1 h with h | h
 ·exact .inl h
 ·rw [(List.mem_replicate.1 h).2]; exact .inr rfl
theorem ZhQ {x : List PtrD} {i : Nat} (hi : 8 ≤ i) : cnt (Zo x) i = cnt x i := by
 unfold Zo; rw [Zj, ZjJ _ _ hi]; rfl
theorem TV.leaf {st : Za} {t : Ze} (h : TV st t) (h0 : 0 ≤ st.av) : ∀ q ∈ Zo (t.ps st), Wf st 0 q := fun q hq => by
 rcases Zac hq with hq | hq
 ·exact Zb0 h.wf q hq
 ·exact ZnB h0 hq
theorem TV.rows {st s : Za} {t : Ze} {X : List PtrD} (h : TV st t) (hr : Yy st s X) (hs : ∀ q ∈ t.all st, q ∈ X) : TV s t ∧ t.all s = t.all st ∧ t.ps s = t.ps st ∧ t.tx s = t.tx st := by
 obtain ⟨w1, w2, w3⟩ := h.wf.rows hr hs;have e3 : t.ps s = t.ps st := w3;refine ⟨⟨h.many, h.dep, w1, fun j hj => by rw [w3]; exact h.out j hj⟩, w2, w3, ?_⟩;unfold Ze.tx;rw [e3];refine List.map_congr_left fun q hq => Zax fun hh => ?_;rcases Zac hq with hq | hq
 ·rcases ZjK h.wf q hq with h1 | h1
  ·rw [hh] at h1; cases h1
  ·exact hr.row q (hs q h1) (UR h.wf q h1).1 hh
 ·rw [hh] at hq; cases hq
theorem Zev {st : Za} {many : Int} : ∀ {l : List PtrD} {i : Nat}, (∀ q ∈ l, Wf st 0 q) → (∀ j, many ≤ ((i + j : Nat) : Int) → (l.getD j PtrD.zero).hole = true) → Jf st many i l = true
 | [], _, _, _ => rfl
 | q :: r, i, h, ho => by
  have hq := h q (mem_cons_self ..);show (Zhh st many i q && Jf st many (i + 1) r) = true;rw [Zev (fun x hx => h x (mem_cons_of_mem _ hx)) (fun j hj => by have := ho (j + 1) (by omega); simpa using this), Bool.and_true];unfold Zhh
  cases hh : q.hole with
  | true => show (q.aq == 0) = true; rw [ZdS hh]; rfl
  | false =>
   show (XQ st q && ((q.aq == 0) && decide ((i : Int) < many))) = true;rw [hq.2.2.2, hq.2.2.1]
   by_cases hi : (i : Int) < many
   ·rw [decide_eq_true hi]; rfl
   ·have := ho 0 (by omega)
    rw [List.getD_cons_zero, hh] at this; cases this
theorem TV.treeX {st : Za} {t : Ze} (h : TV st t) (h0 : 0 ≤ st.av) : TreeX st t (t.ps st) ((t.ps st).take t.ai.toNat) := by
 have hl := h.len;have hok := h.wf.ok;have hx : ∀ p ∈ t.ps st, p.ok = true := fun p hp => (Zb0 h.wf p hp).1
 have hd := ZjM (st := st) (l := [t.af]) (n := depthN t.ai) fun p hp => by rw [mem_singleton.1 hp]; exact h.wf
 rw [flatMap_cons, flatMap_nil, append_nil] at hd;have hd2 := (Vh (st := st) (n := depthN t.ai) (l := [t.af]) (fun p hp => by rw [mem_singleton.1 hp]; exact hok) h0).1;refine ⟨hd, h.dep, hl.2.1, hx, ?_, ?_, h.many, ?_⟩
 ·refine VW (l := t.ps st) ?_ (hd2.symm.trans hd) (Zev (fun q hq => Zb0 h.wf q hq) fun j hj => h.out j (by omega))
  unfold topB;rw [XU h.many.1 h.many.2, hok.1, decide_eq_true hok.2, h.dep]; simp
 ·rw [length_take]; omega
 ·unfold Zo
  rw [List.take_append_of_le_length (by omega)]
theorem Zew {st : Za} : ∀ {n : Nat} {p : PtrD}, Wf st n p → ∀ q ∈ allL st n p, q ∈ innL st n p ∨ q ∈ lvL st n p
 | 0, p, _, q, hq => by
  cases hh : p.hole with
  | true => rw [ZW hh] at hq; cases hq
  | false => rw [QB hh] at hq; exact .inr hq
 | n + 1, p, ⟨ho, hb, l, hk, hw⟩, q, hq => by
  cases hh : p.hole with
  | true => rw [ZW hh] at hq; cases hq
  | false =>
   rw [Y0 hh hk] at hq;rw [Xy hh hk, QV hk];rcases mem_cons.1 hq with rfl | hq
   ·exact .inl (mem_cons_self ..)
   ·obtain ⟨k, hkl, hq⟩ := mem_flatMap.1 hq
    rcases Zew (hw k hkl) q hq with h | h
    ·exact .inl (mem_cons_of_mem _ (mem_flatMap.2 ⟨k, hkl, h⟩))
    ·exact .inr (mem_flatMap.2 ⟨k, hkl, h⟩)
theorem ZnN {l : List PtrD} {k : Nat} (hk : k < l.length) (p : PtrD) (i : Nat) : cnt (l.set k p) i + cnt [l.getD k PtrD.zero] i = cnt l i + cnt [p] i := by
 induction l generalizing k with
 | nil => simp at hk
 | cons a r ih =>
  cases k with
  | zero =>
   rw [List.set_cons_zero, List.getD_cons_zero, show p :: r = [p] ++ r from rfl, show a :: r = [a] ++ r from rfl, Zj, Zj]; omega
  | succ k =>
   have := ih (k := k) (by simpa using hk);rw [List.set_cons_succ, List.getD_cons_succ, show a :: r.set k p = [a] ++ r.set k p from rfl, show a :: r = [a] ++ r from rfl, Zj, Zj]; omega
theorem ZoJ {st : Za} {X : List PtrD} {text : ByteArray} {level : Int} (hI : Inv st X) (hsz : inB (text.size : Int) 1 128 = true) (hlv : inB level 0 2 = true) :
  ((YG st text level).ok = true → Inv (YG st text level).st ((YG st text level).p :: X) ∧ Z5 st (YG st text level).st X ∧ (YG st text level).p.ok = true ∧ (YG st text level).p.hole = false ∧ (YG st text level).p.al = st.av ∧ (YG st text level).p.aq = level ∧ XQ (YG st text level).st (YG st text level).p = true ∧ Zn (YG st text level).st (YG st text level).p = text) ∧
  ((YG st text level).ok = false → (YG st text level).st = st) := by
 by_cases hi : writeAt st text level < 64
 ·obtain ⟨h1, h2, h3⟩ := hI.write hsz hlv hi rfl
  have hpo := Zgw hI.ok hsz hlv hi rfl;have hph : (YY (writeAt st text level : Int) st.av level text).hole = false := by
   cases hh : (YY (writeAt st text level : Int) st.av level text).hole with
   | false => rfl
   | true =>
    have e : (YY (writeAt st text level : Int) st.av level text).al = 0 := ZdT hh;have e2 : (YY (writeAt st text level : Int) st.av level text).al = st.av := rfl;have := (Za.ok_spec hI.ok).txg
    omega
  have hfit : Qk (YY (writeAt st text level : Int) st.av level text) text = true := by
   unfold Qk; rw [hpo, hph];show (true && (true && (((text.size : Int)) == (text.size : Int) && (UF text == UF text)))) = true
   simp
  rw [Ub hi rfl];refine ⟨fun _ => ⟨h1, h2, hpo, hph, rfl, rfl, ?_, ?_⟩, fun e => nomatch e⟩
  ·rw [QS hph, h3]; exact hfit
  ·rw [JE hph (by rw [h3]; exact hfit), h3]
 ·rw [U0 (by have := J9 st text level; omega)]
  exact ⟨fun e => (nomatch e), fun _ => rfl⟩
theorem ZmI {st : Za} {X : List PtrD} {old : PtrD} {text : ByteArray} (hI : Inv st X) (htl : text.size ≤ 128) (hold : Wf st 0 old) :
  ((XP st old text).ok = true → ∃ P1, Inv (XP st old text).st (P1 ++ X) ∧ Z5 st (XP st old text).st X ∧ Wf (XP st old text).st 0 (XP st old text).p ∧ Zn (XP st old text).st (XP st old text).p = text ∧ ((P1 = [] ∧ (XP st old text).p = old) ∨ (P1 = [] ∧ (XP st old text).p = PtrD.zero) ∨ P1 = [(XP st old text).p])) ∧
  ((XP st old text).ok = false → (XP st old text).st = st) := by
 cases h : ((Zn st old).toList == text.toList) with
 | true =>
  rw [U1 h];exact ⟨fun _ => ⟨[], hI, Z5.refl _ _, hold, Qg h, .inl ⟨rfl, rfl⟩⟩, fun e => nomatch e⟩
 | false =>
  by_cases h0 : text.size = 0
  ·rw [Zaz h h0]
   have e : text = ByteArray.empty := ByteArray.ext (Array.eq_empty_of_size_eq_zero h0);exact ⟨fun _ => ⟨[], hI, Z5.refl _ _, Wf.zero (show (0 : Int) ≤ st.av by have := (Za.ok_spec hI.ok).txg; omega) 0, by rw [e]; exact Xd rfl, .inr (.inl ⟨rfl, rfl⟩)⟩, fun e => nomatch e⟩
  ·rw [Zaa h h0]
   obtain ⟨w1, w2⟩ := ZoJ (text := text) (level := 0) hI (XU (by omega) (by omega)) rfl;refine ⟨fun hk => ?_, w2⟩;obtain ⟨a1, a2, a3, a4, a5, a6, a7, a8⟩ := w1 hk;exact ⟨[_], a1, a2, ⟨a3, by rw [a5, a2.txg]; exact Int.le_refl _, a6, a7⟩, a8, .inr (.inr rfl)⟩
theorem ZiV {st : Za} {t : Ze} (h : TV st t) : (t.tx st).length = 16 := by unfold Ze.tx; rw [length_map, h.wide]
theorem Zex {st : Za} {t : Ze} (h : TV st t) {k : Nat} (hk : k < 16) : (t.tx st).getD k ByteArray.empty = Zn st ((Zo (t.ps st)).getD k PtrD.zero) := by
 unfold Ze.tx;have := h.wide;rw [getD_eq_getElem?_getD, getD_eq_getElem?_getD, List.getElem?_map, getElem?_eq_getElem (by omega)]; rfl
theorem ZmJ {l : List ByteArray} {k : Nat} {x : ByteArray} (h : l.getD k ByteArray.empty = x) (hk : k < l.length) : l.set k x = l := by
 rw [getD_eq_getElem?_getD, getElem?_eq_getElem hk] at h;have h : l[k] = x := h;rw [← h, List.set_getElem_self]
theorem Zey {st : Za} {t : Ze} (h : TV st t) {j : Nat} (hj : t.ai.toNat ≤ j) : ((Zo (t.ps st)).getD j PtrD.zero).hole = true := by
 unfold Zo
 by_cases hl : j < (t.ps st).length
 ·rw [getD_eq_getElem?_getD, List.getElem?_append_left hl, ← getD_eq_getElem?_getD]; exact h.out j hj
 ·rw [getD_eq_getElem?_getD, List.getElem?_append_right (by omega), ← getD_eq_getElem?_getD, getD_eq_getElem?_getD, List.getElem?_replicate]
  split <;> rfl
theorem ZkP {l : List PtrD} (h : ∀ j, j < l.length → (l.getD j PtrD.zero).hole = true) : l = replicate l.length PtrD.zero := by
 refine List.ext_getElem (by simp) fun j h1 h2 => ?_;rw [List.getElem_replicate];have := YT (h j h1);rw [getD_eq_getElem?_getD, getElem?_eq_getElem h1] at this;exact this
theorem ZoI.tv {st : Za} {cs R Q : List PtrD} {many : Nat} {r : UZ} (h : ZoI st cs R Q many r) (hn : cs.length = many) (hm : many ≤ 16) : TV r.st r.t ∧ Zo (r.t.ps r.st) = cs ++ replicate (16 - many) PtrD.zero := by
 obtain ⟨hd, hmm⟩ := h.t;obtain ⟨z, hz⟩ := h.lv;have hps : r.t.ps r.st = cs ++ replicate z PtrD.zero := by unfold Ze.ps; rw [hmm]; exact hz
 refine ⟨⟨by omega, by rw [hmm]; exact hd, by rw [hmm]; exact h.wf, fun j hj => ?_⟩, ?_⟩
 ·rw [hmm, hz, getD_eq_getElem?_getD, List.getElem?_append_right (by omega), List.getElem?_replicate]
  split <;> rfl
 ·have hl : (r.t.ps r.st).length ≤ 16 := by
   have h1 := Zgj h.wf;have h2 := Zma (YV (many : Int));unfold Ze.ps; rw [hmm]; omega
  unfold Zo;rw [hps] at hl ⊢;rw [length_append, List.length_replicate] at hl;rw [List.append_assoc, List.replicate_append_replicate, length_append, List.length_replicate]
  congr 2; omega
section
variable {st : Za} {t : Ze} {R : List PtrD} {k : Nat} {text : ByteArray}
structure Zot (st : Za) (t : Ze) (R : List PtrD) (many : Int) (tx : List ByteArray) (r : UZ) : Prop where
  tv : TV r.st r.t
  inv : Inv r.st (r.t.all r.st ++ R)
  kp : Z5 st r.st R
  many : r.t.ai = many
  tx : r.t.tx r.st = tx
structure ZmK (st : Za) (t : Ze) (R : List PtrD) (r : UZ) : Prop where
  inv : Inv r.st (t.all st ++ R)
  kp : Z5 st r.st (t.all st ++ R)
  t : r.t = t ∨ r.t = tree0
theorem Zez (hI : Inv st (t.all st ++ R)) (hT : TV st t) (hk : k < 16) (htl : text.size ≤ 128) :
  ((XL st t (t.ps st) k text).ok = true → Zot st t R (max t.ai ((k : Int) + 1)) ((t.tx st).set k text) (XL st t (t.ps st) k text)) ∧
  ((XL st t (t.ps st) k text).ok = false → ZmK st t R (XL st t (t.ps st) k text)) := by
 have h0 : 0 ≤ st.av := by have := (Za.ok_spec hI.ok).txg; omega
 have hwl := hT.wide;have hmm := hT.many;obtain ⟨old, hold⟩ : ∃ o, (Zo (t.ps st)).getD k PtrD.zero = o := ⟨_, rfl⟩;have holdm : old ∈ Zo (t.ps st) := hold ▸ YN (by omega);obtain ⟨many, hmx⟩ : ∃ m : Nat, max t.ai ((k : Int) + 1) = (m : Int) := ⟨(max t.ai ((k : Int) + 1)).toNat, by omega⟩;have hm16 : many ≤ 16 := by omega
 have hownt : Zn st old = (t.tx st).getD k ByteArray.empty := by rw [Zex hT hk, hold]
 by_cases hst : ((Zn st old).toList == text.toList) = true ∧ (many : Int) = t.ai
 ·rw [Zel hold hst.1 (hmx.trans hst.2)]
  refine ⟨fun _ => ⟨hT, hI, Z5.refl _ _, (hmx.trans hst.2).symm, ?_⟩, fun e => nomatch e⟩;exact (ZmJ (hownt.symm.trans (Qg hst.1)) (by rw [ZiV hT]; exact hk)).symm
 ·obtain ⟨pv1, pv2⟩ := ZmI (X := t.all st ++ R) hI htl (hT.leaf h0 old holdm)
  cases hpk : (XP st old text).ok with
  | false =>
   cases hsame : ((Zn st old).toList == text.toList) with
   | true => rw [U1 hsame] at hpk; cases hpk
   | false =>
    rw [ZfG hold hsame (U2 hpk)];exact ⟨fun e => (nomatch e), fun _ => ⟨hI, Z5.refl _ _, .inl rfl⟩⟩
  | true =>
   obtain ⟨P1, hI1, hK1, hwp, hrt, hP1⟩ := pv1 hpk;have hlay := Qn hold hmx hst (U2 hpk);generalize hs : (XP st old text).st = s at hI1 hK1 hwp hrt hlay;generalize hp : (XP st old text).p = p at hP1 hwp hrt hlay;obtain ⟨tv1, ta1, tp1, tx1⟩ := hT.rows hK1.rows (X := t.all st ++ R) (fun q hq => mem_append_left _ hq);have h0s : 0 ≤ s.av := by rw [hK1.txg]; exact h0
   have hcn := Zes tv1.wf;have hta : t.all st = allL s (depthN t.ai) t.af := ta1.symm;have htp : t.ps st = lvL s (depthN t.ai) t.af := tp1.symm
   -- the places laid out
   have hLl : ((Zo (t.ps st)).set k p).length = 16 := by rw [length_set]; exact hwl
   have hcl : (((Zo (t.ps st)).set k p).take many).length = many := by rw [length_take]; omega
   have hLm : ∀ q ∈ (Zo (t.ps st)).set k p, q ∈ Zo (t.ps st) ∨ q = p := fun q hq => List.mem_or_eq_of_mem_set hq
   have hcs : ∀ q ∈ ((Zo (t.ps st)).set k p).take many, Wf s 0 q := fun q hq => by
    rcases hLm q (List.mem_of_mem_take hq) with h | rfl
    ·exact tv1.leaf h0s q (by rw [tp1]; exact h)
    ·exact hwp
   have hpm : p.hole = true ∨ p ∈ P1 ++ (t.ps st ++ R) := by
    rcases hP1 with ⟨_, rfl⟩ | ⟨_, rfl⟩ | rfl
    ·rcases Zac holdm with h | h
     ·exact .inr (mem_append_right _ (mem_append_left _ h))
     ·exact .inl h
    ·exact .inl rfl
    ·exact .inr (mem_append_left _ (mem_singleton.2 rfl))
   have hm2 : ∀ q ∈ (Zo (t.ps st)).set k p, q.hole = true ∨ q ∈ P1 ++ (t.ps st ++ R) := fun q hq => by
    rcases hLm q hq with h | rfl
    ·rcases Zac h with h | h
     ·exact .inr (mem_append_right _ (mem_append_left _ h))
     ·exact .inl h
    ·exact hpm
   have hI2 : Inv s (innL s (depthN t.ai) t.af ++ (P1 ++ (t.ps st ++ R))) := hI1.mono fun i h8 _ => by
    have := hcn i h8;rw [← hta, ← htp] at this;simp only [Zj]; omega
   have hQ : ∀ i, 8 ≤ i → i < 64 → cnt (((Zo (t.ps st)).set k p).take many) i + cnt ((if p.eqv old = true then [] else [old]) ++ R) i ≤ cnt (P1 ++ (t.ps st ++ R)) i := fun i h8 _ => by
    have h1 := Zgu (List.take_sublist many ((Zo (t.ps st)).set k p)) i;have h2 := ZnN (l := Zo (t.ps st)) (k := k) (by omega) p i;rw [hold, ZhQ h8] at h2;simp only [Zj];have h3 : cnt [PtrD.zero] i = 0 := Zce rfl h8
    by_cases he : p.eqv old = true
    ·rw [if_pos he, Jy]
     have e : p = old := PtrD.eqv_iff.1 he;rw [e] at h2 h1 ⊢
     omega
    ·rw [if_neg he]
     rcases hP1 with ⟨_, e⟩ | ⟨_, e⟩ | e
     ·exact absurd (PtrD.eqv_iff.2 e) he
     ·rw [e] at h1 h2 ⊢; omega
     ·rw [e]; omega
   have hl := ZhP (Q := (if p.eqv old = true then [] else [old]) ++ R) tv1.dep (YV _) tv1.wf hI2 (many := many) (leaves := (Zo (t.ps st)).set k p) rfl hcl hm16 hcs (fun q hq => hm2 q (List.mem_of_mem_take hq)) hQ;rw [hlay]
   cases hlk : (XO s t ((Zo (t.ps st)).set k p) many).ok with
   | false =>
    rw [if_neg Bool.false_ne_true];refine ⟨fun e => (by rw [hlk] at e; cases e), fun _ => ?_⟩;obtain ⟨i1, i2⟩ := hl.2 hlk;refine ⟨i1.mono fun i h8 _ => ?_, hK1.trans (i2.mono fun q hq => ?_), ?_⟩
    ·have := hcn i h8
     rw [← hta, ← htp] at this;simp only [Zj]; omega
    ·rcases mem_append.1 hq with hq | hq
     ·rw [hta] at hq
      rcases Zew tv1.wf q hq with h | h
      ·exact mem_append_left _ h
      ·rw [← htp] at h; exact mem_append_right _ (mem_append_right _ (mem_append_left _ h))
     ·exact mem_append_right _ (mem_append_right _ (mem_append_right _ hq))
    ·right
     unfold XO at hlk ⊢
     split at hlk
     ·cases hlk
     ·rw [if_neg (by assumption)]
   | true =>
    rw [if_pos rfl];refine ⟨fun _ => ?_, fun e => nomatch e⟩;have hL := hl.1 hlk;generalize hr1 : XO s t ((Zo (t.ps st)).set k p) many = r1 at hL;obtain ⟨tvr, hwr⟩ := hL.tv hcl hm16
    -- what lies behind is holes
    have hrest : ((Zo (t.ps st)).set k p).drop many = replicate (16 - many) PtrD.zero := by
     have h1 := ZkP (l := ((Zo (t.ps st)).set k p).drop many) fun j hj => by
      rw [length_drop] at hj;rw [getD_eq_getElem?_getD, List.getElem?_drop, List.getElem?_set_ne (by omega), ← getD_eq_getElem?_getD];exact Zey hT (by omega)
     rw [h1, length_drop, hLl]
    have hwide : Zo (r1.t.ps r1.st) = (Zo (t.ps st)).set k p := by
     rw [hwr, ← hrest, List.take_append_drop]
    have htx : r1.t.tx r1.st = (t.tx st).set k text := by
     unfold Ze.tx;rw [hwide, ← hrt, show (Zo (t.ps st)).map (Zn st) = (Zo (t.ps st)).map (Zn s) from by
      have := tx1; unfold Ze.tx at this; rw [tp1] at this; exact this.symm, ← List.map_set]
     refine List.map_congr_left fun q hq => Zax fun hh => ?_;rcases hm2 q hq with h | h
     ·rw [hh] at h; cases h
     ·refine hL.kp.row q h ?_ hh
      rcases hLm q hq with h | rfl
      ·exact (tv1.leaf h0s q (by rw [tp1]; exact h)).1
      ·exact hwp.1
    have hkR : Z5 st r1.st R := (hK1.mono fun q hq => mem_append_right _ hq).trans (hL.kp.mono fun q hq => mem_append_right _ (mem_append_right _ hq));have hmany : r1.t.ai = max t.ai ((k : Int) + 1) := by rw [hL.t.2, hmx]
    have hall : allL r1.st (depthN (many : Int)) r1.t.af = r1.t.all r1.st := by unfold Ze.all; rw [hL.t.2]
    have hinv := hL.inv;rw [hall] at hinv
    by_cases he : p.eqv old = true
    ·rw [if_pos he] at hinv ⊢
     exact ⟨tvr, hinv, hkR, hmany, htx⟩
    ·rw [if_neg he] at hinv ⊢
     have hf := Inv.free (p := old) (X := r1.t.all r1.st ++ R) (hinv.mono fun i _ _ => by rw [Y4]; simp only [Zj, Y4, Jy]; omega) (tv1.leaf h0s old (by rw [tp1]; exact holdm)).1;obtain ⟨tv3, ta3, tp3, tx3⟩ := tvr.rows hf.2.rows (fun q hq => mem_append_left _ hq);exact ⟨tv3, by rw [ta3]; exact hf.1, hkR.trans (hf.2.mono fun q hq => mem_append_right _ hq), hmany, tx3.trans htx⟩
end
theorem Ut : ∀ {l Y : List PtrD} {s : Za}, Inv s (l ++ Y) → (∀ p ∈ l, p.ok = true) → Inv (Qp l s) Y ∧ Z5 s (Qp l s) Y
 | [], Y, s, h, _ => ⟨h, Z5.refl _ _⟩
 | p :: r, Y, s, h, ho => by
  rw [cons_append] at h;obtain ⟨j1, j2⟩ := Inv.free h (ho p (mem_cons_self ..));obtain ⟨i1, i2⟩ := Ut j1 fun q hq => ho q (mem_cons_of_mem _ hq)
  exact ⟨i1, (j2.mono fun q hq => mem_append_right _ hq).trans i2⟩
theorem ZeA {st : Za} {t : Ze} {R : List PtrD} {many : Nat} (hI : Inv st (t.all st ++ R)) (hT : TV st t) (hm : (many : Int) ≤ t.ai) :
  ((Q0 st t (t.ps st) many).ok = true → Zot st t R (many : Int) ((t.tx st).take many ++ replicate (16 - many) ByteArray.empty) (Q0 st t (t.ps st) many)) ∧
  ((Q0 st t (t.ps st) many).ok = false → ZmK st t R (Q0 st t (t.ps st) many)) := by
 have h0 : 0 ≤ st.av := by have := (Za.ok_spec hI.ok).txg; omega
 have hwl := hT.wide;have hmm := hT.many;have hm16 : many ≤ 16 := by omega
 have htl := ZiV hT
 by_cases he : (many : Int) = t.ai
 ·have e : Q0 st t (t.ps st) many = ⟨st, t, true⟩ := by unfold Q0; rw [if_pos he]
  rw [e];refine ⟨fun _ => ⟨hT, hI, Z5.refl _ _, he.symm, ?_⟩, fun e => nomatch e⟩;have hd : (t.tx st).drop many = replicate (16 - many) ByteArray.empty := by
   refine List.ext_getElem (by rw [length_drop, List.length_replicate]; omega) fun j h1 h2 => ?_;rw [List.length_replicate] at h2;rw [List.getElem_drop, List.getElem_replicate];have := Zex hT (k := many + j) (by omega);rw [Xd (Zey hT (by omega)), getD_eq_getElem?_getD, getElem?_eq_getElem (by omega)] at this;exact this
  rw [← hd, List.take_append_drop]
 ·have hcn := Zes hT.wf
  have hta : t.all st = allL st (depthN t.ai) t.af := rfl;have htp : t.ps st = lvL st (depthN t.ai) t.af := rfl;have hcl : ((Zo (t.ps st)).take many).length = many := by rw [length_take]; omega
  have hm2 : ∀ q ∈ Zo (t.ps st), q.hole = true ∨ q ∈ t.ps st ++ R := fun q hq => by
   rcases Zac hq with h | h
   ·exact .inr (mem_append_left _ h)
   ·exact .inl h
  have hI2 : Inv st (innL st (depthN t.ai) t.af ++ (t.ps st ++ R)) := hI.mono fun i h8 _ => by
   have := hcn i h8;rw [← hta, ← htp] at this;simp only [Zj]; omega
  have hl := ZhP (Q := (Zo (t.ps st)).drop many ++ R) hT.dep (YV _) hT.wf hI2 (many := many) (leaves := Zo (t.ps st)) rfl hcl hm16 (fun q hq => hT.leaf h0 q (List.mem_of_mem_take hq)) (fun q hq => hm2 q (List.mem_of_mem_take hq)) (fun i h8 _ => by
   have h1 : cnt (Zo (t.ps st)) i = cnt ((Zo (t.ps st)).take many) i + cnt ((Zo (t.ps st)).drop many) i := by rw [← Zj, List.take_append_drop]
   rw [ZhQ h8] at h1;simp only [Zj]; omega)
  cases hlk : (XO st t (Zo (t.ps st)) many).ok with
  | false =>
   have e : Q0 st t (t.ps st) many = ⟨(XO st t (Zo (t.ps st)) many).st, t, false⟩ := by unfold Q0; rw [if_neg he, if_neg (by rw [hlk]; exact Bool.false_ne_true)]
   rw [e];refine ⟨fun e => (nomatch e), fun _ => ?_⟩;obtain ⟨i1, i2⟩ := hl.2 hlk;refine ⟨i1.mono fun i h8 _ => ?_, i2.mono fun q hq => ?_, .inl rfl⟩
   ·have := hcn i h8
    rw [← hta, ← htp] at this;simp only [Zj]; omega
   ·rcases mem_append.1 hq with hq | hq
    ·rcases Zew hT.wf q hq with h | h
     ·exact mem_append_left _ h
     ·exact mem_append_right _ (mem_append_left _ h)
    ·exact mem_append_right _ (mem_append_right _ hq)
  | true =>
   have e : Q0 st t (t.ps st) many = ⟨Qp ((Zo (t.ps st)).drop many) (XO st t (Zo (t.ps st)) many).st, (XO st t (Zo (t.ps st)) many).t, true⟩ := by unfold Q0; rw [if_neg he, if_pos hlk]
   rw [e];refine ⟨fun _ => ?_, fun e => nomatch e⟩;have hL := hl.1 hlk;generalize hr1 : XO st t (Zo (t.ps st)) many = r1 at hL;obtain ⟨tvr, hwr⟩ := hL.tv hcl hm16;have htx : r1.t.tx r1.st = (t.tx st).take many ++ replicate (16 - many) ByteArray.empty := by
    unfold Ze.tx;rw [hwr, List.map_append, List.map_replicate, show Zn r1.st PtrD.zero = ByteArray.empty from Xd rfl, ← List.map_take]
    congr 1
    refine List.map_congr_left fun q hq => Zax fun hh => ?_;have hq := List.mem_of_mem_take hq;rcases hm2 q hq with h | h
    ·rw [hh] at h; cases h
    ·exact hL.kp.row q h (hT.leaf h0 q hq).1 hh
   have hall : allL r1.st (depthN (many : Int)) r1.t.af = r1.t.all r1.st := by unfold Ze.all; rw [hL.t.2]
   have hinv := hL.inv;rw [hall] at hinv;have hf := Ut (l := (Zo (t.ps st)).drop many) (Y := r1.t.all r1.st ++ R) (hinv.mono fun i _ _ => by simp only [Zj]; omega) (fun q hq => (hT.leaf h0 q (List.mem_of_mem_drop hq)).1);obtain ⟨tv3, ta3, tp3, tx3⟩ := tvr.rows hf.2.rows (fun q hq => mem_append_left _ hq);exact ⟨tv3, by rw [ta3]; exact hf.1, (hL.kp.mono fun q hq => mem_append_right _ hq).trans (hf.2.mono fun q hq => mem_append_right _ hq), hL.t.2, tx3.trans htx⟩
def Xh (o : Option Zb) : ByteArray := match o with | none => ByteArray.empty | some n => ZY n
noncomputable def ZF (st : Za) (ns : List (Option Zb)) : List PtrD := ns.flatMap fun o => match o with | none => [] | some n => n.ah.all st
structure FS (st : Za) (t : Ze) (ns : List (Option Zb)) (R : List PtrD) : Prop where
  inv : Inv st (t.all st ++ (ZF st ns ++ R))
  tv : TV st t
  tx : t.tx st = ns.map Xh
  ok : ∀ n, some n ∈ ns → n.ok = true
  nv : ∀ n, some n ∈ ns → TV st n.ah
theorem FS.len {st : Za} {t : Ze} {ns : List (Option Zb)} {R : List PtrD} (h : FS st t ns R) : ns.length = 16 := by
 have := congrArg List.length h.tx;rw [ZiV h.tv, length_map] at this;exact this.symm
theorem QY {st s : Za} : ∀ {ns : List (Option Zb)} {X : List PtrD}, (∀ n, some n ∈ ns → TV st n.ah) → Yy st s X → (∀ q ∈ ZF st ns, q ∈ X) → ZF s ns = ZF st ns ∧ ∀ n, some n ∈ ns → TV s n.ah
 | [], X, _, _, _ => ⟨rfl, fun n hn => nomatch hn⟩
 | o :: r, X, hv, hr, hs => by
  obtain ⟨i1, i2⟩ := QY (ns := r) (fun n hn => hv n (mem_cons_of_mem _ hn)) hr (fun q hq => hs q (by unfold ZF; rw [flatMap_cons]; exact mem_append_right _ hq))
  cases o with
  | none =>
   refine ⟨by unfold ZF; rw [flatMap_cons, flatMap_cons]; unfold ZF at i1; rw [i1], fun n hn => ?_⟩;rcases mem_cons.1 hn with h | h
   ·cases h
   ·exact i2 n h
  | some n =>
   obtain ⟨j1, j2, _⟩ := (hv n (mem_cons_self ..)).rows hr (fun q hq => hs q (by unfold ZF; rw [flatMap_cons]; exact mem_append_left _ hq));refine ⟨by unfold ZF; rw [flatMap_cons, flatMap_cons]; unfold ZF at i1; rw [i1]; show n.ah.all s ++ _ = n.ah.all st ++ _; rw [j2], fun m hm => ?_⟩;rcases mem_cons.1 hm with h | h
   ·cases h; exact j1
   ·exact i2 m h
theorem FS.keep {st s : Za} {t : Ze} {ns : List (Option Zb)} {R R2 : List PtrD} (h : FS st t ns R) (hi : Inv s (t.all st ++ (ZF st ns ++ R2))) (hr : Yy st s (t.all st ++ ZF st ns)) : FS s t ns R2 := by
 obtain ⟨t1, t2, _, t4⟩ := h.tv.rows hr fun q hq => mem_append_left _ hq
 obtain ⟨n1, n2⟩ := QY h.nv hr fun q hq => mem_append_right _ hq
 exact ⟨by rw [t2, n1]; exact hi, t1, t4.trans h.tx, h.ok, n2⟩
theorem FS.next {st : Za} {t : Ze} {ns : List (Option Zb)} {R : List PtrD} (h : FS st t ns R) (ht : st.av < 900) : FS st.nextOf t ns R := by
 obtain ⟨h1, h2⟩ := h.inv.next ht;refine h.keep h1 (h2.mono fun q hq => ?_);rcases mem_append.1 hq with hq | hq
 ·exact mem_append_left _ hq
 ·exact mem_append_right _ (mem_append_left _ hq)
structure FH (st : Za) (t : Ze) (ns : List (Option Zb)) (id : Nat) (Y : List PtrD) : Prop where
  inv : Inv st (t.all st ++ (ZF st (ns.set id none) ++ Y))
  tv : TV st t
  tx : t.tx st = ns.map Xh
  ok : ∀ n, some n ∈ ns.set id none → n.ok = true
  nv : ∀ n, some n ∈ ns.set id none → TV st n.ah
theorem Zad {st : Za} : ∀ {ns : List (Option Zb)} {id : Nat} {o : Option Zb} (i : Nat), id < ns.length → cnt (ZF st (ns.set id o)) i = cnt (ZF st (ns.set id none)) i + cnt (ZF st [o]) i
 | [], id, o, i, h => by simp at h
 | a :: r, 0, o, i, _ => by
  rw [List.set_cons_zero, List.set_cons_zero];unfold ZF;rw [flatMap_cons, flatMap_cons, flatMap_cons, flatMap_nil, append_nil, Zj, Zj, Jy]; omega
 | a :: r, id + 1, o, i, h => by
  rw [List.set_cons_succ, List.set_cons_succ];have := Zad (st := st) (ns := r) (id := id) (o := o) i (by simpa using h);unfold ZF at this ⊢;rw [flatMap_cons, flatMap_cons, Zj, Zj]; omega
theorem Uu {st : Za} (n : Zb) : ZF st [some n] = n.ah.all st := by unfold ZF; simp
theorem Vq {st : Za} : ZF st [none] = [] := rfl
theorem ZgA {ns : List (Option Zb)} {id : Nat} {o : Option Zb} (h : ns[id]? = some o) : ns.set id o = ns := by
 obtain ⟨hl, e⟩ := List.getElem?_eq_some_iff.1 h;rw [← e, List.set_getElem_self]
theorem FS.hole {st : Za} {t : Ze} {ns : List (Option Zb)} {R : List PtrD} (h : FS st t ns R) {id : Nat} {o : Option Zb} (ho : ns[id]? = some o) : FH st t ns id (ZF st [o] ++ R) := by
 obtain ⟨hl, _⟩ := List.getElem?_eq_some_iff.1 ho;have hm : ∀ n, some n ∈ ns.set id none → some n ∈ ns := fun n hn => by
  rcases List.mem_or_eq_of_mem_set hn with h | h
  ·exact h
  ·cases h
 refine ⟨h.inv.mono fun i _ _ => ?_, h.tv, h.tx, fun n hn => h.ok n (hm n hn), fun n hn => h.nv n (hm n hn)⟩;have := Zad (st := st) (o := o) i hl;rw [ZgA ho] at this;simp only [Zj]; omega
theorem FH.keep {st s : Za} {t : Ze} {ns : List (Option Zb)} {id : Nat} {Y Y2 : List PtrD} (h : FH st t ns id Y) (hi : Inv s (t.all st ++ (ZF st (ns.set id none) ++ Y2))) (hr : Yy st s (t.all st ++ ZF st (ns.set id none))) : FH s t ns id Y2 := by
 obtain ⟨t1, t2, _, t4⟩ := h.tv.rows hr fun q hq => mem_append_left _ hq
 obtain ⟨n1, n2⟩ := QY h.nv hr fun q hq => mem_append_right _ hq
 exact ⟨by rw [t2, n1]; exact hi, t1, t4.trans h.tx, h.ok, n2⟩
theorem FH.worked {st : Za} {t y : Ze} {ns : List (Option Zb)} {id : Nat} {R : List PtrD} (h : FH st t ns id (y.all st ++ R)) : Inv st (y.all st ++ (t.all st ++ (ZF st (ns.set id none) ++ R))) := h.inv.mono fun i _ _ => by simp only [Zj]; omega
structure FB (st : Za) (t : Ze) : Prop where
  ok : st.ok = true
  tv : TV st t
theorem tv0 {st : Za} (h : st.ok = true) : TV st tree0 :=
  ⟨⟨Int.le_refl _, by decide⟩, rfl, Wf.zero (by have := (Za.ok_spec h).txg; omega) _, fun j _ => by
    show ((lvL st 0 PtrD.zero).getD j PtrD.zero).hole = true;rw [show lvL st 0 PtrD.zero = [PtrD.zero] from rfl]
    cases j <;> rfl⟩
theorem ZmL {st : Za} {t : Ze} {R : List PtrD} {r : UZ} (h : TV st t) (hp : ZmK st t R r) : FB r.st r.t := by
 refine ⟨hp.inv.ok, ?_⟩;rcases hp.t with e | e
 ·rw [e]; exact (h.rows hp.kp.rows fun q hq => mem_append_left _ hq).1
 ·rw [e]; exact tv0 hp.inv.ok
theorem FH.put {st : Za} {t : Ze} {ns : List (Option Zb)} {id : Nat} {R : List PtrD} {n : Zb} (h : FH st t ns id (n.ah.all st ++ R)) (hv : TV st n.ah) (hid : id < 16) (hl : ns.length = 16) (hsz : (ZY n).size ≤ 128) (he : n.ok = false → ZY n = ByteArray.empty) :
  ((XL st t (t.ps st) id (ZY n)).ok = true → FS (XL st t (t.ps st) id (ZY n)).st (XL st t (t.ps st) id (ZY n)).t (ns.set id (if n.ok = true then some n else none)) R ∧ (XL st t (t.ps st) id (ZY n)).t.ai = max t.ai ((id : Int) + 1)) ∧
  ((XL st t (t.ps st) id (ZY n)).ok = false → FB (XL st t (t.ps st) id (ZY n)).st (XL st t (t.ps st) id (ZY n)).t) := by
 obtain ⟨p1, p2⟩ := Zez (k := id) h.inv h.tv hid hsz;refine ⟨fun hk => ?_, fun hk => ZmL h.tv (p2 hk)⟩;have hp := p1 hk;generalize XL st t (t.ps st) id (ZY n) = r at hp;have hr := hp.kp.rows;obtain ⟨n1, n2⟩ := QY h.nv hr fun q hq => mem_append_left _ hq
 obtain ⟨y1, y2, _⟩ := hv.rows hr fun q hq => mem_append_right _ (mem_append_left _ hq)
 have hmem : ∀ m o, some m ∈ ns.set id o → some m ∈ ns.set id none ∨ o = some m := fun m o hm => by
  obtain ⟨j, hj, e⟩ := List.getElem_of_mem hm;rw [length_set] at hj;rw [List.getElem_set] at e
  split at e
  ·exact .inr e
  ·left
   refine List.mem_iff_getElem.2 ⟨j, by rw [length_set]; exact hj, ?_⟩;rw [List.getElem_set, if_neg (by assumption)]; exact e
 refine ⟨⟨hp.inv.mono fun i _ _ => ?_, hp.tv, ?_, fun m hm => ?_, fun m hm => ?_⟩, hp.many⟩
 ·have h1 := Zad (st := r.st) (ns := ns) (id := id) (o := if n.ok = true then some n else none) i (by omega)
  have h2 : cnt (ZF r.st [if n.ok = true then some n else none]) i ≤ cnt (n.ah.all st) i := by
   split
   ·rw [Uu, y2]; exact Nat.le_refl _
   ·rw [Vq, Jy]; omega
  rw [n1] at h1;simp only [Zj]; omega
 ·rw [hp.tx, h.tx, List.map_set]
  congr 1
  split
  ·rfl
  ·rename_i e; exact he (by simpa using e)
 ·rcases hmem m _ hm with h1 | h1
  ·exact h.ok m h1
  ·split at h1
   ·rename_i e; cases h1; exact e
   ·cases h1
 ·rcases hmem m _ hm with h1 | h1
  ·exact n2 m h1
  ·split at h1
   ·cases h1; exact y1
   ·cases h1
theorem TreeX.at {st : Za} {t : Ze} {x l : List PtrD} (X : TreeX st t x l) {k : Nat} (h : k < l.length) : (Zo x).getD k PtrD.zero = l.getD k PtrD.zero := by
 have h2 : k < t.ai.toNat := by have := X.len; omega
 conv => rhs; rw [← X.tk]
 rw [getD_eq_getElem?_getD, getD_eq_getElem?_getD, List.getElem?_take_of_lt h2]
def ZaN (ns : List (Option Zb)) (k : Nat) : Zb := (ns.getD k none).getD Zb.zero
theorem Zbn {ns : List (Option Zb)} {k : Nat} {n : Zb} (h : ns.getD k none = some n) : ZaN ns k = n := by unfold ZaN; rw [h]; rfl
theorem Ud {ns : List (Option Zb)} {k : Nat} (h : ns.getD k none = none) : ZaN ns k = Zb.zero := by unfold ZaN; rw [h]; rfl
theorem ZkQ {st : Za} : entF st Zb.zero = none := by unfold entF; rfl
theorem ZfN {st : Za} {ns : List (Option Zb)} (H : Zb3 ns) (k : Nat) : entK st ns k = (entF st (ZaN ns k)).getD [] := by
 cases hn : ns.getD k none with
 | none => rw [ZfA hn, Ud hn, ZkQ]; rfl
 | some n =>
  rw [Zbn hn];have hk := (Zb.ok_is (H.ok k n hn)).small.kind
  cases hf : (n.aj == 1) with
  | true =>
   have h1 : n.aj = 1 := by simpa using hf
   rw [ZfB hn hf, Zgq (.inr (by rw [h1]; rfl))]; rfl
  | false =>
   have h2 : (n.aj == 2) = true := by
    rcases hk with hk | hk
    ·rw [hk] at hf; cases hf
    ·rw [hk]; rfl
   rw [Zeh (H.ok k n hn) h2]
   cases hd : V6 st n with
   | none => unfold entK; rw [hn]; show (bif _ then _ else _) = _; rw [hf, hd]; rfl
   | some es => rw [Zhz hn hf hd]; rfl
theorem ZhR {st : Za} {ns : List (Option Zb)} (H : Zb3 ns) {k : Nat} {es : List Zc} (h : entF st (ZaN ns k) = some es) : entK st ns k = es := by rw [ZfN H k, h]; rfl
theorem ZjO {st : Za} {ns : List (Option Zb)} (H : Zb3 ns) {k : Nat} (h : entF st (ZaN ns k) = none) : entK st ns k = [] := by rw [ZfN H k, h]; rfl
theorem ZfO (s : ByteArray) : QD [] s = none := Zea (o := none) (Q9 (fun i hi => absurd hi (Nat.not_lt_zero _)) (Nat.zero_le _)) fun i hi => absurd hi (Nat.not_lt_zero _)
theorem ZiW (a0 : Option Addr) (c0 : Nat) (a1 : Option Addr) (c1 : Nat) (a2 : Option Addr) (c2 : Nat) (a4 : Option Addr) (c4 : Nat) (a6 : Option Addr) (c6 : Nat) (st : Za) (t : Ze) {ns : List (Option Zb)} (htb : ZeO st t = some ns) (k : Nat) (w0 : World) (hR : Rd Zu 1 w0 a0 st.ac.length st.ac) (hrow : Xv st) (h0 : 0 ≤ st.av) : Calls prog 156 #[sV a0 c0 a1 c1 a2 c2 a4 c4 a6 c6 st, tV t, .int .i64 (k : Int)] w0 fun e w' => e = .returned (.tuple #[nV (ZaN ns k), .bool (ns.getD k none).isSome]) ∧ Below w0.heap.size w0 w' := by
 have HR := Bx.mk hR; clear hR;have E := Bx.mk (St.start w0);obtain ⟨l, hlf, htL, hlen⟩ := Zgk htb; obtain ⟨x, X⟩ := treeX h0 hlf; have hll := X.len; have hmm := X.many; have hlm : (l.map (Zn st)).length = l.length := length_map ..; have h16 := US hlf;refine ent func156 ntmps156 ?_;refine xsr ?_;refine ybx E ?_;clear E;intro w1 b1 E;refine ybx E ?_;clear E;intro w2 b2 E;refine yal z10 E ?_;clear E;intro w3 b3 E;refine xr 1 rfl<|xne<|xsq<|xsr<|xr 1 rfl<|Xf 6 rfl<|Xl 1 E rfl rfl<|xy rfl (fun a J=>ZO rfl (J.ev rfl) (J.ev rfl) (Yi (by omega))) ?_;refine ycB ((Yb (k : Int) 0 (t.ai - 1) _).mono fun _ _ h => ⟨h.1, h.2 ▸ Below.refl _ _⟩) func25 E ?_;clear E;intro w4 E;refine xr 1 rfl<|xne<|xcs 13 rfl (fun cc1=>?_) fun cc1=>?_;have hin : inB (k : Int) 0 (t.ai - 1) = false := by simpa using cc1
 refine xct rfl<|xsr<|xy rfl (vb z10 rfl) ?_;refine yst E 0 ?_;clear E;intro w5 E;replace E:=E.nm;refine xr 1 rfl<|xne<|xre<|xtr ?_;intro a J;refine Zw J results156 (J.resBox rfl (E.o.box 0 rfl) (by kernel_rfl)) (J.res rfl) ?_;have hnk : ns.getD k none = none := by have e9 : ((ns.length : Int) - 1) = t.ai - 1 := (by omega); rw [← e9] at hin; rcases Zmv hin with h | h; (· omega); (· simpa using h)
 exact ⟨by rw [Ud hnk, hnk] <;> rfl, E.o.bel⟩;have hin : inB (k : Int) 0 (t.ai - 1) = true := by simpa using cc1
 have hkk := Zs hin;refine xcf rfl<|xsk<|xet<|xsr<|Xw 2 8 E rfl rfl<|Xw 1 7 E rfl rfl<|xr 1 rfl ?_;refine ycB (ZfE a0 c0 a1 c1 a2 c2 a4 c4 a6 c6 st t X.dn X.dep X.x16 X.xok k (by omega) _ (HR.out.below E.o.bel) hrow) func188 E ?_;clear E;intro w6 E;have hkl : k < l.length := by omega
 have hat := Zds htL k hkl;have hxa := X.at hkl;refine yc (XJ (Zn st ((Zo x).getD k PtrD.zero)) _ (V0 hrow _)) func14 ?_;rintro _ w7 (⟨n, hno, hnb, rfl, hb⟩ | ⟨hnn, rfl, hb⟩);rw [hxa] at hnb; have hnk : ns.getD k none = some n := Zeb hat hno hnb;refine ⟨_, rfl, ?_⟩; replace E := Bx.mk (E.o.later hb);clear hb;refine xr 2 rfl ?_;refine yst E 0 ?_;clear E;intro w8 E;replace E:=E.nm;refine xr 1 rfl<|xne<|xre ?_;intro a J;refine Zw J results156 (J.resBox rfl (E.o.box 0 rfl) (by kernel_rfl)) (J.res rfl) ?_;exact ⟨by rw [Zbn hnk, hnk] <;> rfl, E.o.bel⟩;rw [hxa] at hnn; have hnk : ns.getD k none = none := Zec hat hnn;refine ⟨_, rfl, ?_⟩; replace E := Bx.mk (E.o.later hb);clear hb;refine xr 2 rfl ?_;refine yst E 0 ?_;clear E;intro w9 E;replace E:=E.nm;refine xr 1 rfl<|xne<|xre ?_;intro a J;refine Zw J results156 (J.resBox rfl (E.o.box 0 rfl) (by kernel_rfl)) (J.res rfl) ?_;exact ⟨by rw [Ud hnk, hnk] <;> rfl, E.o.bel⟩
theorem ZkR (ae : Option Addr) (s : ByteArray) (w0 : World) : Calls prog 124 #[.slice ae 0 0, .string s] w0 fun e w' => e = .returned (.int .i64 (-1)) ∧ Below w0.heap.size w0 w' := by
 refine (ZcD ae 0 [] s w0 (Q9 (fun i hi => absurd hi (Nat.not_lt_zero _)) (Nat.zero_le _)) (Zak _ _ _ _)).mono fun e w' h => ?_;rw [ZfO] at h; exact h
theorem U5 {o : Option Nat} (h : ¬ ZfD o < 0) : ∃ j, o = some j := by
 cases o with
 | none => exact absurd (by show (-1 : Int) < 0; omega) h
 | some j => exact ⟨j, rfl⟩
theorem ZcK {o : Option Nat} (h : ZfD o < 0) : o = none := by
 cases o with
 | none => rfl
 | some j => have h' : (j : Int) < 0 := h; omega
theorem Zdc (a0 : Option Addr) (c0 : Nat) (a1 : Option Addr) (c1 : Nat) (a2 : Option Addr) (c2 : Nat) (a4 : Option Addr) (c4 : Nat) (a6 : Option Addr) (c6 : Nat) (st : Za) (t : Ze) {ns : List (Option Zb)} (htb : ZeO st t = some ns) (H : Zb3 ns) (aoM : Option Addr) (cpM : Nat) (nms : List ByteArray) (w0 : World) (hR : Rd Zu 1 w0 a0 st.ac.length st.ac) (hrow : Xv st) (h0 : 0 ≤ st.av) (hl : nms.length ≤ 100) (hN : Rd Zu 1 w0 aoM nms.length nms) : Calls prog 155 #[sV a0 c0 a1 c1 a2 c2 a4 c4 a6 c6 st, tV t, .slice aoM nms.length cpM] w0 fun e w' => e = .returned (.int .i64 (ZfD (findN st ns nms 0))) ∧ Below w0.heap.size w0 w' := by
 obtain ⟨g1, o1, r1⟩ := hN.opn; have RM := Bx.mk r1; clear r1;have HR := Bx.mk hR; clear hR;have E := Bx.mk (St.start w0);refine ent func155 ntmps155 ?_;refine xsr ?_;refine ybx E ?_;clear E;intro w1 b1 E;refine ybx E ?_;clear E;intro w2 b2 E;refine xr 1 rfl<|xne<|xsr<|xr 1 rfl<|xne<|xsq<|xsr<|xr 1 rfl<|xne<|xbl ?_;intro a J;refine Zt (ι := Nat) (fun i a w => ∃ (k : Nat), (i ≤ nms.length ∧ findN st ns nms 0 = findN st ns (nms.drop i) k) ∧ Fr 51 a [(2, .slice aoM nms.length cpM), (3, .pointer (some ⟨b1, 0, none⟩)), (4, .pointer (some ⟨b2, 0, none⟩)), (7, .int .i64 (k : Int)), (8, .int .i64 (i : Int))] ∧ St w0 ([boxA b2 7 26 (tV t), boxA b1 8 44 (sV a0 c0 a1 c1 a2 c2 a4 c4 a6 c6 st)]) w) (fun i => nms.length - i) 0 ⟨0, ⟨Nat.zero_le _, rfl⟩, J.ls _, E.o⟩ ?_;clear J E; clear a;rintro i a w3 ⟨k, ⟨hi, hfn⟩, J, E⟩;replace E := Bx.mk E;revert a;refine xsq<|xsr<|xr 2 rfl<|xy rfl (vn 9 1 rfl)<|xr 1 rfl<|xne<|xcd 17 rfl (fun _ dcc1=>?_) fun _ dcc1=>?_
 refine xct rfl<|xsk<|xet<|xsq<|xbl<|xsr<|Xw 1 8 E rfl rfl<|Xw 0 7 E rfl rfl<|xr 1 rfl ?_;refine ycB (ZiW a0 c0 a1 c1 a2 c2 a4 c4 a6 c6 st t htb k _ (HR.out.below E.o.bel) hrow h0) func156 E ?_;clear E;intro w4 E;refine xr 3 rfl ?_;refine yal z10 E ?_;clear E;intro w5 b3 E;refine yst E 0 ?_;clear E;intro w6 E;replace E:=E.nm;refine xr 1 rfl<|xne<|xsr<|Xw 2 8 E rfl rfl<|Xw 0 10 E rfl rfl ?_;refine yc (V8 a0 c0 a1 c1 a2 c2 a4 c4 a6 c6 st (ZaN ns k) _ (HR.out.below E.o.bel) hrow h0) func152 ?_;rintro _ w7 (⟨es, hes, aoE, cpE, rfl, hs1⟩ | ⟨hes, ae, rfl, hb⟩);have hek := ZhR H hes; have hoe : YP es = true := by rw [← hek]; exact Zgn k
 refine ⟨_, rfl, ?_⟩; replace E := E.ad hs1;clear hs1;refine xr 5 rfl<|xne<|xsr<|xr 3 rfl<|xy rfl (vxr 9 i 1 rfl (RM.out.ao i (by omega)))<|xy rfl (fun a J=>ylo (v := .string (nms.getD i ByteArray.empty)) rfl (J.ev rfl) (RM.out.elem1 E.o (Zi (xs := nms) (j := i) (d := ByteArray.empty) (by omega)) rfl)) ?_;refine ycB (ZcD _ _ es (nms.getD i ByteArray.empty) _ hoe (St.rdOf E.o Zc.cells_len 0 rfl)) func124 E ?_;clear E;intro w8 E;refine xr 1 rfl<|xne<|xsq<|xsr<|xr 6 rfl<|xne<|xcd 44 rfl (fun cc2 dcc2=>?_) fun cc2 dcc2=>?_;have hix : QD es (nms.getD i ByteArray.empty) = none := ZcK (by first | exact of_decide_eq_true cc2 | exact dcc2);refine xct rfl<|xsr<|xr 1 rfl<|xne<|xre<|xtr<|xbr<|xtr<|xtr<|xbr<|xtr<|xb1 results155 rfl ?_;exact ⟨by rw [hfn, Zgs (by omega), UV (by rw [hek]; exact hix)] <;> rfl, E.o.bel⟩;obtain ⟨j, hix⟩ := U5 (o := QD es (nms.getD i ByteArray.empty)) (by first | exact of_decide_eq_false cc2 | exact dcc2);have hat9 := Zb4 es (nms.getD i ByteArray.empty); rw [hix] at hat9; obtain ⟨hlt9, _⟩ := hat9; have hid9 := (ZnC (st := st) (ns := ns) (k := k) (by rw [hek]; exact UX hlt9)).1;refine xcf rfl<|xsk<|xet ?_;intro a J;rw [hix, Qx] at J;obtain ⟨g4, rfl, _, _, _, _⟩ := E.o.rowOpen 0 rfl (by omega);revert a;refine xrl<|xr 2 rfl<|xy rfl (vx 153 j 2 rfl)<|Xf 1 rfl<|xy rfl (fun a J=>ylo (v := .int .i64 ((es.getD j Zc.zero).aG)) rfl (J.ev rfl) (E.o.elem Zc.cells_len 0 rfl (Zi (xs := es) (j := j) (d := Zc.zero) (by omega)) 1 _ rfl))<|xr 1 rfl<|xni<|xeb<|xet<|xrl<|xr 1 rfl<|xy rfl (vad rfl)<|xr 1 rfl<|xne ?_;have hfn2 : findN st ns nms 0 = findN st ns (nms.drop (i + 1)) (es.getD j Zc.zero).aG.toNat := by rw [hfn, Zgs (by omega), UW (by rw [hek]; exact hix), hek]
 replace E:=E.pks [3,3];intro a J;exact ⟨(i + 1), ⟨_, ⟨by omega, hfn2⟩, J.less _ ⟨rfl, rfl, rfl, (by show some (Value.int .i64 _) = some (Value.int .i64 _); rw [hid9]), rfl, trivial⟩, (E.o.erS [3,2])⟩, (by omega)⟩;have hek := ZjO H hes;refine ⟨_, rfl, ?_⟩; replace E := Bx.mk (E.o.later hb);clear hb;refine xr 5 rfl<|xne<|xsr<|xr 3 rfl<|xy rfl (vxr 9 i 1 rfl (RM.out.ao i (by omega)))<|xy rfl (fun a J=>ylo (v := .string (nms.getD i ByteArray.empty)) rfl (J.ev rfl) (RM.out.elem1 E.o (Zi (xs := nms) (j := i) (d := ByteArray.empty) (by omega)) rfl)) ?_;refine ycB (ZkR _ (nms.getD i ByteArray.empty) _) func124 E ?_;clear E;intro w9 E;refine xr 1 rfl<|xne<|xsq<|xsr<|xr 6 rfl<|xne<|xct rfl<|xsr<|xr 1 rfl<|xne<|xre<|xtr<|xbr<|xtr<|xtr<|xbr<|xtr<|xb1 results155 rfl ?_;exact ⟨by rw [hfn, Zgs (by omega), UV (by rw [hek]; exact ZfO _)] <;> rfl, E.o.bel⟩;refine xcf rfl<|xex<|xtx<|xtx<|xbh<|xet<|xsr<|xr 2 rfl<|xne<|xre<|xb1 results155 rfl ?_;obtain rfl : i = nms.length := by omega
 rw [List.drop_length, UU] at hfn; exact ⟨by rw [hfn] <;> rfl, E.o.bel⟩
theorem QE (y : ByteArray) (ys : List ByteArray) : (Z3 (y :: ys)).size = (Zy y.size).size + 1 + y.size + (Z3 ys).size := by
 rw [Zh, Xr];simp only [length_append, length_cons, ← Zh]; omega
theorem ZkS {n : Nat} (h : n ≤ 9) : (Zy n).size ≤ 1 := Zao (k := 0) (by omega)
theorem Zpm {n : Nat} (h : n ≤ 99) : (Zy n).size ≤ 2 := Zao (k := 1) (by omega)
theorem JJ (n : Zb) : (ZY n).size ≤ 128 := by
 cases h : n.ok with
 | false => rw [QU h]; exact Nat.zero_le _
 | true =>
  rw [← (YM h).is];have ho : n.ah.af.ok = true := (Zb.ok_is h).root;have e0 : (Z3 []).size = 0 := rfl;have e1 := Yr n.aj; have e2 := Yr n.ax; have e3 := Yr n.am; have e4 := Zb8 ho; have e5 := Yr n.ah.aw; have e6 := Yr n.ah.ai;have e7 : Zl6.size = 3 := rfl;have d1 := ZkS e1; have d2 := ZkS e2; have d3 := ZkS e3; have d4 := Zpm (Nat.le_trans e4 (by omega)); have d5 := ZkS e5; have d6 := ZkS e6; have d7 := ZkS (n := Zl6.size) (by omega);unfold Xs;rw [QE, QE, QE, QE, QE, QE, QE]
  omega
theorem ZhS {n : Zb} (h : n.ok = true) : (ZY n).size ≠ 0 := by
 rw [← (YM h).is];unfold Xs;rw [QE]; omega
theorem Vr {o : Option Zb} (hok : ∀ n, o = some n → n.ok = true) (h : Xh o = ByteArray.empty) : o = none := by
 cases o with
 | none => rfl
 | some n => exact absurd (by rw [show ZY n = ByteArray.empty from h]; rfl) (ZhS (hok n rfl))
theorem FS.get {st : Za} {t : Ze} {ns : List (Option Zb)} {R : List PtrD} (h : FS st t ns R) {k : Nat} (hk : k < 16) : Zn st ((Zo (t.ps st)).getD k PtrD.zero) = Xh (ns.getD k none) := by
 rw [← Zex h.tv hk, h.tx, getD_eq_getElem?_getD, getD_eq_getElem?_getD, List.getElem?_map]
 cases ns[k]? <;> rfl
theorem Yo {ns : List (Option Zb)} {k : Nat} {n : Zb} (h : ns.getD k none = some n) : some n ∈ ns ∧ ns[k]? = some (some n) := by
 rw [getD_eq_getElem?_getD] at h
 cases e : ns[k]? with
 | none => rw [e] at h; cases h
 | some o => rw [e] at h; have h : o = some n := h; subst h; exact ⟨List.mem_of_getElem? e, rfl⟩
theorem FS.out {st : Za} {t : Ze} {ns : List (Option Zb)} {R : List PtrD} (h : FS st t ns R) {k : Nat} (hk : t.ai.toNat ≤ k) : ns.getD k none = none := by
 by_cases h16 : k < 16
 ·have h1 := h.get h16
  rw [Xd (Zey h.tv hk)] at h1;exact Vr (fun n hn => h.ok n (Yo hn).1) h1.symm
 ·rw [getD_eq_getElem?_getD, List.getElem?_eq_none (by have := h.len; omega)]; rfl
theorem FS.cut {st : Za} {t : Ze} {ns : List (Option Zb)} {R : List PtrD} {many : Nat} (h : FS st t ns R) (hm : (many : Int) ≤ t.ai) (hn : ∀ j, many ≤ j → ns.getD j none = none) :
  ((Q0 st t (t.ps st) many).ok = true → FS (Q0 st t (t.ps st) many).st (Q0 st t (t.ps st) many).t ns R ∧ (Q0 st t (t.ps st) many).t.ai = many) ∧
  ((Q0 st t (t.ps st) many).ok = false → FB (Q0 st t (t.ps st) many).st (Q0 st t (t.ps st) many).t) := by
 obtain ⟨p1, p2⟩ := ZeA (many := many) h.inv h.tv hm;refine ⟨fun hk => ?_, fun hk => ZmL h.tv (p2 hk)⟩;have hp := p1 hk;generalize Q0 st t (t.ps st) many = r at hp;obtain ⟨n1, n2⟩ := QY h.nv hp.kp.rows fun q hq => mem_append_left _ hq
 have h16 := h.len;have hmm := h.tv.many;refine ⟨⟨by rw [n1]; exact hp.inv, hp.tv, ?_, h.ok, n2⟩, hp.many⟩;rw [hp.tx, h.tx];have hd : (ns.map Xh).drop many = replicate (16 - many) ByteArray.empty := by
  refine List.ext_getElem (by rw [length_drop, length_map, List.length_replicate]; omega) fun j h1 h2 => ?_;rw [List.length_replicate] at h2;rw [List.getElem_drop, List.getElem_replicate, List.getElem_map];have := hn (many + j) (by omega);rw [getD_eq_getElem?_getD, getElem?_eq_getElem (by omega)] at this;rw [show ns[many + j] = none from this]; rfl
 rw [← hd, List.take_append_drop]
theorem ZhT (st : Za) : Zb.zero.ah.all st = [] := ZW X9 _
theorem ZjP {st : Za} (h : st.ok = true) : TV st Zb.zero.ah := tv0 h
theorem Zdu : Zb.zero.ok = false := by first | rfl | decide
theorem FH.clear {st : Za} {t : Ze} {ns : List (Option Zb)} {id : Nat} {R : List PtrD} (h : FH st t ns id R) (hid : id < 16) (hl : ns.length = 16) :
  ((XL st t (t.ps st) id ByteArray.empty).ok = true → FS (XL st t (t.ps st) id ByteArray.empty).st (XL st t (t.ps st) id ByteArray.empty).t (ns.set id none) R ∧ (XL st t (t.ps st) id ByteArray.empty).t.ai = max t.ai ((id : Int) + 1)) ∧
  ((XL st t (t.ps st) id ByteArray.empty).ok = false → FB (XL st t (t.ps st) id ByteArray.empty).st (XL st t (t.ps st) id ByteArray.empty).t) := by
 have h1 := FH.put (n := Zb.zero) (R := R) (by rw [ZhT, nil_append]; exact h) (ZjP h.inv.ok) hid hl (JJ _) fun _ => QU Zdu
 rw [QU Zdu, Zdu, if_neg Bool.false_ne_true] at h1;exact h1
theorem TV.level {st : Za} {t : Ze} (h : TV st t) : t.af.hole = true ∨ t.af.aq = t.aw := by
 cases hh : t.af.hole with
 | true => exact .inl rfl
 | false => exact .inr ((h.wf.level hh).trans h.dep.symm)
theorem ZoK {st : Za} {n : Zb} {y : Ze} {size : Nat} (hn : n.ok = true) (hk : n.aj = 2) (hy : TV st y) (hm : y.ai = (((size + 127) / 128 : Nat) : Int)) (hs : size ≤ 2048) : (Zb.mk n.aj n.ax (size : Int) y).ok = true := by
 have hp : Z7 2 (size : Int) = (((size + 127) / 128 : Nat) : Int) := by
  rw [J1 (by decide) (by omega) (by rw [ZbT]; omega), ZbT]; omega
 have hN := Zb.ok_is hn;refine Zb.ok_yes ⟨?_, hN.links, ?_, ?_, hy.wf.ok.1, hy.level⟩
 ·show 0 ≤ Z7 n.aj (size : Int)
  rw [hk, hp]; omega
 ·show y.ai = Z7 n.aj (size : Int)
  rw [hk, hp, hm]
 ·show y.aw = ((depthN (Z7 n.aj (size : Int)) : Nat) : Int)
  rw [hk, hp, hy.dep, hm]
theorem ZjQ {st : Za} : ∀ {l : List PtrD} {ns : List (Option Zb)}, l.map (Zn st) = ns.map Xh → (∀ n, some n ∈ ns → n.ok = true) → (∀ n, some n ∈ ns → (leavesF st n.ah).isSome = true) → (∀ q ∈ l, q.hole = false → (Zn st q).size ≠ 0) → VA st l = some ns
 | [], ns, h, _, _, _ => by cases ns with
  | nil => rfl
  | cons _ _ => cases h
 | p :: r, ns, h, ho, hv, hn => by
  cases ns with
  | nil => cases h
  | cons o ns =>
   simp only [map_cons, List.cons.injEq] at h;have ih := ZjQ h.2 (fun n hm => ho n (mem_cons_of_mem _ hm)) (fun n hm => hv n (mem_cons_of_mem _ hm)) fun q hq => hn q (mem_cons_of_mem _ hq)
   cases hh : p.hole with
   | true =>
    rw [Zcy hh, ih];rw [Xd hh] at h;rw [Vr (fun n e => ho n (by rw [e]; exact mem_cons_self ..)) h.1.symm]; rfl
   | false =>
    cases o with
    | none => exact absurd (by rw [h.1]; rfl) (hn p (mem_cons_self ..) hh)
    | some n =>
     have hg : J2 (Zn st p) = some n := by rw [h.1]; exact Zau (ho n (mem_cons_self ..)) rfl
     rw [Zd2 hh hg (hv n (mem_cons_self ..)), ih]; rfl
theorem FS.tab {st : Za} {t : Ze} {ns : List (Option Zb)} {R : List PtrD} (h : FS st t ns R) : ZeO st t = some (ns.take t.ai.toNat) := by
 have h0 : 0 ≤ st.av := by have := (Za.ok_spec h.inv.ok).txg; omega
 have X := h.tv.treeX h0;rw [Zfq X.lv];have hl := h.tv.len;refine ZjQ ?_ (fun n hn => h.ok n (List.mem_of_mem_take hn)) (fun n hn => ?_) fun q hq hh => ?_
 ·have e := h.tx
  unfold Ze.tx at e;have e2 := congrArg (List.take t.ai.toNat) e;rw [← List.map_take, ← List.map_take] at e2;unfold Zo at e2;rw [List.take_append_of_le_length hl.2.2] at e2;exact e2
 ·have Y := (h.nv n (List.mem_of_mem_take hn)).treeX h0
  rw [Y.lv]; rfl
 ·have hw := Zb0 h.tv.wf q (List.mem_of_mem_take hq)
  have hf := hw.2.2.2;rw [QS hh] at hf;rw [JE hh hf];unfold Qk at hf;simp only [Bool.and_eq_true, beq_iff_eq] at hf;have ho := hw.1;unfold PtrD.ok at ho;rw [hh, Bool.false_or] at ho;simp only [Bool.and_eq_true] at ho;have := Zs ho.1.1.2
  omega
structure Js (st : Za) (R : List PtrD) (s : Za) : Prop where
  ok : s.ok = true
  kp : Z5 st s R
structure Wk (st : Za) (R : List PtrD) (s : Za) (y : Ze) : Prop where
  tv : TV s y
  inv : Inv s (y.all s ++ R)
  kp : Z5 st s R
theorem Wk.start {st : Za} {t : Ze} {R : List PtrD} (hI : Inv st (t.all st ++ R)) (hT : TV st t) : Wk st R st t := ⟨hT, hI, Z5.refl _ _⟩
theorem Wk.h0 {st s : Za} {R : List PtrD} {y : Ze} (h : Wk st R s y) : 0 ≤ s.av := by have := (Za.ok_spec h.inv.ok).txg; omega
theorem Wk.bad {st s : Za} {R : List PtrD} {y : Ze} (h : Wk st R s y) : Js st R s := ⟨h.inv.ok, h.kp⟩
theorem Wk.put {st s : Za} {R : List PtrD} {y : Ze} (h : Wk st R s y) {k : Nat} {text : ByteArray} (hk : k < 16) (htl : text.size ≤ 128) {r : UZ} (hr : r = XL s y (y.ps s) k text) :
  (r.ok = true → Wk st R r.st r.t ∧ r.t.ai = max y.ai ((k : Int) + 1)) ∧ (r.ok = false → Js st R r.st) := by
 obtain ⟨p1, p2⟩ := Zez (k := k) h.inv h.tv hk htl;rw [← hr] at p1 p2;exact ⟨fun e => ⟨⟨(p1 e).tv, (p1 e).inv, h.kp.trans (p1 e).kp⟩, (p1 e).many⟩, fun e => ⟨(p2 e).inv.ok, h.kp.trans ((p2 e).kp.mono fun q hq => mem_append_right _ hq)⟩⟩
theorem Wk.cut {st s : Za} {R : List PtrD} {y : Ze} (h : Wk st R s y) {many : Nat} (hm : (many : Int) ≤ y.ai) {r : UZ} (hr : r = Q0 s y (y.ps s) many) :
  (r.ok = true → Wk st R r.st r.t ∧ r.t.ai = many) ∧ (r.ok = false → Js st R r.st) := by
 obtain ⟨p1, p2⟩ := ZeA (many := many) h.inv h.tv hm;rw [← hr] at p1 p2;exact ⟨fun e => ⟨⟨(p1 e).tv, (p1 e).inv, h.kp.trans (p1 e).kp⟩, (p1 e).many⟩, fun e => ⟨(p2 e).inv.ok, h.kp.trans ((p2 e).kp.mono fun q hq => mem_append_right _ hq)⟩⟩
theorem Wk.treeX {st s : Za} {R : List PtrD} {y : Ze} (h : Wk st R s y) : TreeX s y (y.ps s) ((y.ps s).take y.ai.toNat) := h.tv.treeX h.h0
theorem FH.work2 {st s : Za} {t y y2 : Ze} {ns : List (Option Zb)} {id : Nat} {R : List PtrD} (h : FH st t ns id (y.all st ++ R)) (hp : Wk st (t.all st ++ (ZF st (ns.set id none) ++ R)) s y2) : FH s t ns id (y2.all s ++ R) :=
 h.keep (hp.inv.mono fun i _ _ => by simp only [Zj]; omega) (hp.kp.rows.mono fun q hq => by
  rcases mem_append.1 hq with hq | hq
  ·exact mem_append_left _ hq
  ·exact mem_append_right _ (mem_append_left _ hq))
theorem FH.broke2 {st s : Za} {t y : Ze} {ns : List (Option Zb)} {id : Nat} {R : List PtrD} (h : FH st t ns id (y.all st ++ R)) (hp : Js st (t.all st ++ (ZF st (ns.set id none) ++ R)) s) : FB s t :=
 ⟨hp.ok, (h.tv.rows hp.kp.rows fun q hq => mem_append_left _ hq).1⟩
structure FG (st : Za) (t : Ze) (ns : List (Option Zb)) (R : List PtrD) : Prop where
  fs : FS st t ns R
  top : ∃ n, ns.getD 0 none = some n ∧ n.aj = 2
def GS (st : Za) (t : Ze) (full : Bool) (R : List PtrD) : Prop := (full = false → ∃ ns, FG st t ns R) ∧ (full = true → FB st t)
theorem FS.fb {st : Za} {t : Ze} {ns : List (Option Zb)} {R : List PtrD} (h : FS st t ns R) : FB st t := ⟨h.inv.ok, h.tv⟩
theorem GS.of {st : Za} {t : Ze} {ns : List (Option Zb)} {R : List PtrD} (h : FG st t ns R) : GS st t false R := ⟨fun _ => ⟨ns, h⟩, fun e => nomatch e⟩
theorem FB.h0 {st : Za} {t : Ze} (h : FB st t) : 0 ≤ st.av := by have := (Za.ok_spec h.ok).txg; omega
theorem FB.treeX {st : Za} {t : Ze} (h : FB st t) : TreeX st t (t.ps st) ((t.ps st).take t.ai.toNat) := h.tv.treeX h.h0
theorem ZgB (text : ByteArray) (w0 : World) (hts : text.size ≤ 1000000) : Calls prog 187 #[.string text] w0 fun e w' => ∃ ao cp xs, e = .returned (.slice ao xs.length cp) ∧ xs.length = (text.size + 127) / 128 ∧ (∀ s ∈ xs, s.size ≤ 128) ∧ St w0 [Zg Zu 1 9 (.slice ao xs.length cp) xs] w' := by
 have E := Bx.mk (St.start w0);refine ent func187 ntmps187 ?_;refine xsr<|xr 1 rfl<|xne<|xsr ?_;refine yem 9 1 E ?_;clear E;intro w1 b1 E;refine xr 1 rfl<|xne<|xsq<|xbl ?_;replace E := Bx.mk (E.o.nilRow Zu 1 9 (some ⟨b1, 0, none⟩));intro a J;refine Zt (ι := Nat) (fun i a w => ∃ (ao : Option Addr) (cp : Nat) (xs : List ByteArray) (rest : ByteArray), (128 * i + rest.size = text.size ∧ xs.length = i ∧ ∀ s ∈ xs, s.size ≤ 128) ∧ Fr 22 a [(0, .string rest), (3, .slice ao xs.length cp)] ∧ St w0 ([Zg Zu 1 9 (.slice ao xs.length cp) xs]) w) (fun i => text.size - i) 0 ⟨_, _, [], text, ⟨by omega, rfl, fun s hs => nomatch hs⟩, J.less _ ⟨rfl, rfl, trivial⟩, E.o⟩ ?_;clear J E; clear a;rintro i a w2 ⟨ao, cp, xs, rest, ⟨hsz, hxl, hxs⟩, J, E⟩;replace E := Bx.mk E;revert a;refine xsq<|xsr<|xr 1 rfl<|xy rfl (fun a J=>ZM rfl (J.ev rfl) (by kernel_rfl))<|xr 1 rfl<|xne<|xcd 7 rfl (fun _ dcc1=>?_) fun _ dcc1=>?_
 refine xct rfl<|xsk<|xet<|xbl<|xsq ?_;have hrl : 128 < rest.size := by omega
 refine xrl<|xr 2 rfl<|xy rfl (fun a J=>XY (k := 128) rfl (J.ev rfl) (J.ev rfl) (by kernel_rfl) (by omega) (by omega)) ?_;refine ybs Zu 9 1 [rest.extract 0 128] E ?_;clear E;intro b2 w3 E;refine yap Y3 Zf E 1 (St.rdN E.o Zf 0 rfl) (Zv _) ?_;clear E;intro ao3 cp4 w4 E;refine xr 1 rfl<|xne<|xrl<|xr 1 rfl<|xy rfl (fun a J=>Qu (k := 128) rfl (J.ev rfl) (J.ev rfl) (by kernel_rfl) (by omega) (by omega))<|xr 1 rfl<|xni<|xeb<|xet ?_;have hz5 : xs.length + ([rest.extract 0 128]).length = (xs ++ ([rest.extract 0 128])).length := by simp only [length_append, length_nil, length_cons]
 intro a J;rw [hz5] at E J;have he1 : (rest.extract 0 128).size ≤ 128 := by rw [size_extract]; omega
 have he2 : (rest.extract 128 rest.size).size = rest.size - 128 := by rw [size_extract]; omega
 replace E:=E.pks [1];exact ⟨i + 1, ⟨_, _, _, _, ⟨by omega, by rw [length_append, hxl]; rfl, fun s hs => (mem_append.1 hs).elim (hxs s) (fun h => by rw [mem_singleton.1 h]; exact he1)⟩, J.less _ ⟨rfl, rfl, trivial⟩, (E.o.erase 1)⟩, (by omega)⟩;refine xcf rfl<|xex<|xtx<|xtx<|xbh<|xet<|xsq<|xsr<|xr 1 rfl<|xy rfl (fun a J=>Xk rfl (J.ev rfl) (J.ev rfl))<|xne<|xcs 16 rfl (fun cc2=>?_) fun cc2=>?_;refine xct rfl<|xrl<|xr 2 rfl ?_;refine ybs Zu 9 1 [rest] E ?_;clear E;intro b6 w5 E;refine yap Y3 Zf E 1 (St.rdN E.o Zf 0 rfl) (Zv _) ?_;clear E;intro ao7 cp8 w6 E;refine xr 1 rfl<|xne<|xsr<|xr 2 rfl<|xne<|xre<|xb1 results187 rfl ?_;have hz9 : xs.length + [rest].length = (xs ++ [rest]).length := (length_append ..).symm;have hrp : rest.size ≠ 0 := Uc (by simpa using cc2);exact ⟨_, _, xs ++ [rest], by rw [← hz9], by rw [← hz9, hxl]; simp only [length_singleton]; omega, fun s hs => (mem_append.1 hs).elim (hxs s) (fun h => by rw [mem_singleton.1 h]; omega), by rw [← hz9]; exact (E.o.erase 0)⟩;refine xcf rfl<|xsk<|xet<|xsr<|xr 2 rfl<|xne<|xre<|xb1 results187 rfl ?_;have hrp : rest.size = 0 := ZaA (by simpa using cc2);exact ⟨_, _, xs, rfl, by omega, hxs, E.o⟩
theorem ZgC {xs : List ByteArray} (h : ∀ s ∈ xs, s.size ≤ 128) (i : Nat) : (xs.getD i ByteArray.empty).size ≤ 128 := by
 by_cases hi : i < xs.length
 ·rw [getD_eq_getElem?_getD, getElem?_eq_getElem hi]; exact h _ (List.getElem_mem hi)
 ·rw [getD_eq_getElem?_getD, List.getElem?_eq_none (by omega)]; exact Nat.zero_le _
theorem ZmM (w0 w : World) (q0 : SQ) (t : Ze) (R : List PtrD) (hI : Inv q0.d (t.all q0.d ++ R)) (hT : TV q0.d t) (text : ByteArray) (hts : text.size ≤ 1000000) (F : List Asr) (hS : St w0 (q0.asr :: F) w) : Calls prog 154 #[q0.u, tV t, .string text] w fun e w' => ∃ (q' : SQ) (y : Ze) (b : Bool), e = .returned (.tuple #[q'.u, tV y, .bool b]) ∧ (b = true → text.size ≤ 2048 ∧ Wk q0.d R q'.d y ∧ y.ai = (((text.size + 127) / 128 : Nat) : Int)) ∧ (b = false → Js q0.d R q'.d) ∧ St w0 (q'.asr :: F) w' := by
 have E := Bx.mk hS; clear hS;refine ent func154 ntmps154 ?_;refine xsr ?_;refine ybx E ?_;clear E;intro w1 b1 E;refine ybx E ?_;clear E;intro w2 b2 E;refine yal z8 E ?_;clear E;intro w3 b3 E;refine yal z7 E ?_;clear E;intro w4 b4 E;refine xr 1 rfl<|xne<|xsr<|xr 1 rfl ?_;refine yc (ZgB text _ hts) func187 ?_;rintro _ w5 ⟨aoP, cpP, xs, rfl, hxl, hxs, hs⟩;refine ⟨_, rfl, ?_⟩; replace E := E.ad hs;clear hs;refine xr 1 rfl<|xne<|xsq<|xsr<|xr 1 rfl<|xy rfl (vn 9 1 rfl)<|xr 1 rfl<|xne<|xcd 18 rfl (fun _ dcc1=>?_) fun _ dcc1=>?_;refine xct rfl<|xsq ?_;refine hld [2,1] E ?_;clear E;intro w6 E M;refine Hw 0 2 8 E rfl rfl<|Hw 1 1 7 E rfl rfl ?_;refine Zk 2 ?_;refine yos 2 [2,1] M ?_;clear E M;intro w7 E M;refine Zk 3 ?_;refine yos 1 [2,1] M ?_;clear E M;intro w8 E M;refine Hp 4 E rfl ?_;refine hdn ?_;replace E := M; clear M;refine xet<|xre<|xtr ?_;intro a J;refine Zx J results154 (J.resBox rfl (E.o.box 2 rfl) (by kernel_rfl)) (J.resBox rfl (E.o.box 1 rfl) (by kernel_rfl)) (J.res rfl) ?_;replace E:=E.pks [5];exact ⟨q0, t, false, rfl, fun h => (nomatch h), fun _ => (Wk.start hI hT).bad, (E.o.erS [5,4,3,2,1])⟩;refine xcf rfl<|xsk<|xet<|xsq<|xsr<|xr 1 rfl<|xne<|xbl ?_;replace E:=E.pks [3,4,5];intro a J;refine Zt (ι := Nat) (fun i a w => ∃ (q2 : SQ) (y : Ze), (i ≤ xs.length ∧ (i : Int) ≤ y.ai ∧ Wk q0.d R q2.d y) ∧ Fr 53 a [(2, .string text), (3, .pointer (some ⟨b1, 0, none⟩)), (4, .pointer (some ⟨b2, 0, none⟩)), (6, .pointer (some ⟨b3, 0, none⟩)), (7, .pointer (some ⟨b4, 0, none⟩)), (9, .slice aoP xs.length cpP), (10, .int .i64 (i : Int))] ∧ St w0 (SQ.asr q2 :: boxA b1 8 44 (q2.u) :: boxA b2 7 26 (tV y) :: Zg Zu 1 9 (.slice aoP xs.length cpP) xs :: boxA b4 7 26 (az7) :: boxA b3 8 44 (az8) :: F) w) (fun i => xs.length - i) 0 ⟨q0, t, ⟨Nat.zero_le _, hT.many.1, Wk.start hI hT⟩, J.ls _, E.o⟩ ?_;clear J E; clear a;rintro i a w9 ⟨q2, y, ⟨hi, hiy, hW⟩, J, E⟩;replace E := Bx.mk E;revert a;refine xsq<|xsr<|xr 2 rfl<|xy rfl (vn 9 1 rfl)<|xr 1 rfl<|xne<|xcd 24 rfl (fun _ dcc2=>?_) fun _ dcc2=>?_
 obtain ⟨g5, rfl, _, _, _, _⟩ := E.o.rowOpen 3 rfl (by omega);replace E:=E.pks [5,5,5,5,5,5];refine xct rfl<|xsk<|xet<|xsq<|xbl<|xsq ?_;intro a J;refine ZX (R := fun a w => ∃ (b6 : Nat) (b7 : Nat) (zt1 : UZ) (zq1 : SQ), zt1 = XL q2.d y (y.ps q2.d) i (xs.getD i ByteArray.empty) ∧ zq1.d = zt1.st ∧ (zt1.ok = false → zq1 = { q2 with d := zt1.st } ∧ Ua q2.d zt1.st) ∧ Fr 53 a [(2, .string text), (3, .pointer (some ⟨b1, 0, none⟩)), (4, .pointer (some ⟨b2, 0, none⟩)), (6, .pointer (some ⟨b3, 0, none⟩)), (7, .pointer (some ⟨b4, 0, none⟩)), (9, .slice (some ⟨g5, 0, none⟩) xs.length cpP), (10, .int .i64 (i : Int)), (21, .int .i64 (i : Int)), (22, .slice (some ⟨g5, 0, none⟩) xs.length cpP), (23, .int .i64 (xs.length : Int)), (24, .bool true), (11, .pointer (some ⟨b6, 0, none⟩)), (12, .pointer (some ⟨b7, 0, none⟩)), (13, .bool zt1.ok)] ∧ St w0 (boxA b7 7 26 (tV zt1.t) :: boxA b6 8 44 (zq1.u) :: SQ.asr zq1 :: boxA b1 8 44 (q2.u) :: boxA b2 7 26 (tV y) :: Zg Zu 1 9 (.slice (some ⟨g5, 0, none⟩) xs.length cpP) xs :: boxA b4 7 26 (az7) :: boxA b3 8 44 (az8) :: F) w) ?_ ?_;revert a;refine hld [0] E ?_;clear E;intro w10 E M;refine Hw 0 0 8 E rfl rfl<|Hw 1 1 7 E rfl rfl<|Hp 2 E rfl<|Hp 3 E rfl<|Hp 4 E rfl<|xhy 5 E.o rfl rfl (fun E=>vx 9 i 1 rfl)<|xhy 6 E.o rfl rfl (fun E a J=>ylo (v := .string (xs.getD i ByteArray.empty)) rfl (J.ev rfl) (E.elem1 Zf 2 rfl (Zi (xs := xs) (j := i) (d := ByteArray.empty) (by omega)) rfl)) ?_
 repeat' (first | (refine yo (i := 7) (Zab w0 _ q2 y hW.treeX i (by omega) (xs.getD i ByteArray.empty) (ZgC hxs i) _ hW.inv.ok (M.lk (SQ.asr q2)).out) func112 ?_;rintro _ w12 ⟨zq1, zt1, hr1, hq1, hf1, -, rfl, hs1⟩;refine ⟨_, rfl, ?_⟩; replace M := Bx.mk hs1;clear hs1;replace M:=M.nm;replace E:=E.upd M;refine onb E.o ?_) | (refine yoa (i := 12) z8 E M ?_;clear E M;intro w13 b6 E M) | (refine yoa (i := 13) z7 E M ?_;clear E M;intro w14 b7 E M) | (refine YS (i := 14) M ?_;clear E M;intro w15 E M) | (refine YS (i := 15) M ?_;clear E M;intro w16 E M) | refine rdy 8<|Hp 8 E rfl ?_ | refine rdy 9<|Hp 9 E rfl ?_ | refine rdy 10<|Hp 10 E rfl ?_ | refine rdy 11<|Hp 11 E rfl ?_ | refine rdy 16<|Hp 16 E rfl ?_ | refine VK 7 12 13 ?_ ?_ ?_ | refine YX 7 12 ?_ ?_ | refine Z2 7 ?_ | refine Z2 14 ?_ | refine Z2 15 ?_ | refine Z2 12 ?_ | refine YX 7 13 ?_ ?_ | refine Z2 13 ?_ | refine YX 12 13 ?_ ?_ | (refine gdn ?_;intro a J;exact ZD ⟨b6, b7, zt1, zq1, hr1, hq1, hf1, J.ls _, M.o.pmA⟩))
 clear J E a; rintro a w10 ⟨b6, b7, zt1, zq1, hr1, hq1, hf1, J, E⟩; replace E := Bx.mk E;revert a;refine xet<|xsq<|xsr<|xr 2 rfl<|xne<|xcs 40 rfl (fun cc3=>?_) fun cc3=>?_
 have hok1 : zt1.ok = false := by simpa using cc3
 refine xct rfl<|xsq ?_;refine hld [7,6] E ?_;clear E;intro w11 E M;refine Hw 0 3 8 E rfl rfl<|Hw 1 4 7 E rfl rfl ?_;refine Zk 2 ?_;refine yos 7 [7,6] M ?_;clear E M;intro w12 E M;refine Zk 3 ?_;refine yos 6 [7,6] M ?_;clear E M;intro w13 E M;refine Hp 4 E rfl ?_;refine hdn ?_;replace E := M; clear M;refine xet<|xre<|xtr<|xbr<|xtr<|xtr<|xbr<|xtr ?_;intro a J;refine Zx J results154 (J.resBox rfl (E.o.box 7 rfl) (by kernel_rfl)) (J.resBox rfl (E.o.box 6 rfl) (by kernel_rfl)) (J.res rfl) ?_;replace E:=E.pks [2];obtain ⟨hfa, hfb⟩ := hf1 hok1;have hbad := (hW.put (by omega) (ZgC hxs i) hr1).2 hok1; rw [← hq1] at hbad;exact ⟨zq1, y, false, by rw [hfa, Zcc hW.inv.ok hfb] <;> rfl, fun h => (nomatch h), fun _ => hbad, (E.o.erS [7,6,5,4,3,2,1])⟩;have hok1 : zt1.ok = true := by simpa using cc3
 refine xcf rfl<|xsk<|xet<|xsr<|Xw 1 8 E rfl rfl ?_;refine yst E 3 ?_;clear E;intro w14 E;replace E:=E.nm;refine xne<|xrl<|Xw 0 7 E rfl rfl ?_;refine yst E 4 ?_;clear E;intro w15 E;replace E:=E.nm;refine xni<|xeb<|xet<|xrl<|xr 1 rfl<|xy rfl (vad rfl)<|xr 1 rfl<|xne ?_;obtain ⟨hW2, hm2⟩ := (hW.put (by omega) (ZgC hxs i) hr1).1 hok1;rw [← hq1] at hW2;replace E:=E.pks [7,7,7,7,7,7];intro a J;exact ⟨i + 1, ⟨_, _, ⟨by omega, by omega, hW2⟩, J.less _ ⟨rfl, rfl, rfl, rfl, rfl, rfl, rfl, trivial⟩, (E.o.erS [7,6])⟩, (by omega)⟩;refine xcf rfl<|xex<|xtx<|xtx<|xbh<|xet<|xsr<|Xw 1 8 E rfl rfl<|Xw 2 7 E rfl rfl<|xr 1 rfl<|xy rfl (vn 9 1 rfl) ?_;replace E:=E.pks [0];refine yc (Zer w0 _ q2 y hW.treeX xs.length (by omega) _ hW.inv.ok E.o) func159 ?_;rintro _ w16 ⟨zq3, zt3, hr3, hq3, -, -, rfl, hs1⟩;refine ⟨_, rfl, ?_⟩; replace E := Bx.mk hs1;clear hs1;refine xr 3 rfl ?_;refine yst E 5 ?_;clear E;intro w17 E;replace E:=E.nm;refine yst E 4 ?_;clear E;intro w18 E;replace E:=E.nm;refine xr 1 rfl<|xne<|xre ?_;intro a J;refine Zx J results154 (J.resBox rfl (E.o.box 5 rfl) (by kernel_rfl)) (J.resBox rfl (E.o.box 4 rfl) (by kernel_rfl)) (J.res rfl) ?_;replace E:=E.pks [0];obtain ⟨c1, c2⟩ := hW.cut (by omega) hr3; rw [← hq3] at c1 c2;exact ⟨zq3, zt3.t, zt3.ok, rfl, fun h => ⟨by omega, (c1 h).1, by rw [(c1 h).2, hxl]⟩, c2, (E.o.erS [5,4,3,2,1])⟩
theorem ZfP (w0 w : World) (q0 : SQ) (t : Ze) {x l : List PtrD} (X : TreeX q0.d t x l) (k : Nat) (hk : k < 16) (n : Zb) (F : List Asr) (hq : q0.d.ok = true) (hS : St w0 (q0.asr :: F) w) : Calls prog 84 #[q0.u, tV t, .int .i64 (k : Int), nV n] w fun e w' => ∃ (q' : SQ) (r : UZ), r = XL q0.d t x k (ZY n) ∧ q'.d = r.st ∧ e = .returned (.tuple #[q'.u, tV r.t, .bool r.ok]) ∧ St w0 (q'.asr :: F) w' := by
 have E := Bx.mk hS; clear hS;refine ent func84 ntmps84 ?_;refine xsr ?_;refine ybx E ?_;clear E;intro w1 b1 E;refine ybx E ?_;clear E;intro w2 b2 E;refine ybx E ?_;clear E;intro w3 b3 E;refine yal z8 E ?_;clear E;intro w4 b4 E;refine yal z7 E ?_;clear E;intro w5 b5 E;refine xr 1 rfl<|xne<|xsq ?_;refine hld [5,1,0] E ?_;clear E;intro w6 E M;refine Hw 0 2 8 E rfl rfl<|Hw 1 1 7 E rfl rfl<|Hp 2 E rfl<|Hw 3 0 10 E rfl rfl ?_;refine Zk 4 ?_;refine yoB (Jr n _) func11 ?_;intro w7 hb; replace E := Bx.mk (E.o.later hb); replace M := Bx.mk (M.o.later hb);clear hb; refine onb E.o ?_;refine Zk 5 ?_;intro a J;replace M:=M.pks [5];revert a;refine yo (Zab w0 _ q0 t X k hk (ZY n) (JJ n) _ hq M.o) func112 ?_;rintro _ w9 ⟨zq1, zt1, hr1, hq1, hf1, -, rfl, hs1⟩;refine ⟨_, rfl, ?_⟩; replace M := Bx.mk hs1;clear hs1;intro a J;replace M:=M.nm;clear E;have E:=M.ers [2,1,0];refine ⟨E.o, ?_⟩;revert a;refine Hp 6 E rfl<|Hp 7 E rfl<|Hp 8 E rfl ?_;refine Zk 9 ?_;refine yos 2 [2,1,0] M ?_;clear E M;intro w10 E M;refine Zk 10 ?_;refine yos 1 [2,1,0] M ?_;clear E M;intro w11 E M;refine Hp 11 E rfl ?_;refine hdn ?_;replace E := M; clear M;refine xet<|xre ?_;intro a J;refine Zx J results84 (J.resBox rfl (E.o.box 2 rfl) (by kernel_rfl)) (J.resBox rfl (E.o.box 1 rfl) (by kernel_rfl)) (J.res rfl) ?_;replace E:=E.pks [0];exact ⟨zq1, zt1, hr1, hq1, rfl, (E.o.erS [5,4,3,2,1])⟩
theorem ZmN {n : Zb} (h : n.aj = 1) : (n.aj == 1) = true := beq_iff_eq.2 h
theorem Zbo (x : Int) (w0 : World) (hx : -90000000 ≤ x ∧ x ≤ 1000) : Calls prog 163 #[.int .i64 x] w0 fun e w' => e = .returned (.string (X2 x.toNat)) ∧ Below w0.heap.size w0 w' := by
 have E := Bx.mk (St.start w0);refine ent func163 ntmps163 ?_;refine xsr<|xr 1 rfl<|xne<|xsr<|xr 1 rfl<|xy rfl (fun a J=>Zf1 rfl (J.ev rfl) (J.ev rfl)) ?_;intro a J;refine ZlM (enc := encB) (n := x.toNat) rfl J rfl rfl rfl Zg9 (J.ev rfl) (J.ev rfl) (by omega) (by omega) (by omega) (by unfold maxLen; omega) (0 : UInt8) (by kernel_rfl) rfl rfl E.o ?_; clear J E a; intro b1 a w1 J E; replace E := Bx.mk E;revert a;refine xy rfl (fun a J=>Q7 (e1 := 5) rfl (J.ev rfl) (by kernel_rfl) (by kernel_rfl) (by kernel_rfl) (xs := replicate x.toNat (0 : UInt8)) (St.rdN E.o YJ 0 rfl))<|xr 1 rfl<|xne<|xre<|xb1 results163 rfl ?_;exact ⟨rfl, E.o.bel⟩
theorem ZfQ (a0 : Option Addr) (c0 : Nat) (a1 : Option Addr) (c1 : Nat) (a2 : Option Addr) (c2 : Nat) (a4 : Option Addr) (c4 : Nat) (a6 : Option Addr) (c6 : Nat) (st : Za) (n : Zb) {x l : List PtrD} (X : TreeX st n.ah x l) (hok : n.ok = true) (hkd : n.aj = 1) (w0 : World) (hR : Rd Zu 1 w0 a0 st.ac.length st.ac) (hrow : Xv st) : Calls prog 162 #[sV a0 c0 a1 c1 a2 c2 a4 c4 a6 c6 st, nV n] w0 fun e w' => ∃ s, e = .returned (.string s) ∧ n.am ≤ (s.size : Int) ∧ s.size ≤ 20000000 ∧ Below w0.heap.size w0 w' := by
 have HR := Bx.mk hR; clear hR;have E := Bx.mk (St.start w0);have hll := X.len; have hmm := X.many; have hlm : (l.map (Zn st)).length = l.length := length_map ..;have hfs := Zbc hok (ZmN hkd);refine ent func162 ntmps162 ?_;refine xsr ?_;refine ybx E ?_;clear E;intro w1 b1 E;refine ybx E ?_;clear E;intro w2 b2 E;refine xr 1 rfl<|xne<|xsr<|xr 1 rfl<|xne<|xsr<|Xw 1 8 E rfl rfl<|Xf 3 rfl<|Xw 0 7 E rfl rfl ?_;refine yc (Zaw a0 c0 a1 c1 a2 c2 a4 c4 a6 c6 st n.ah X _ (HR.out.below E.o.bel) hrow) func70 ?_;rintro _ w3 ⟨ao3, cp3, rfl, hs⟩;refine ⟨_, rfl, ?_⟩;replace E := E.ad hs;clear hs;refine xr 1 rfl<|xne<|xsq<|xsr<|xr 1 rfl<|xne<|xbl ?_;intro a J;refine Zt (ι := Nat) (fun k a w => ∃ (tx : ByteArray), (k ≤ l.length ∧ tx.size ≤ 1000012 * k ∧ min (12 * (k : Int)) n.am ≤ (tx.size : Int)) ∧ Fr 37 a [(2, .pointer (some ⟨b1, 0, none⟩)), (3, .pointer (some ⟨b2, 0, none⟩)), (4, .string (⟨#[]⟩ : ByteArray)), (6, .slice ao3 ((l.map (Zn st)).length) cp3), (5, .string tx), (7, .int .i64 (k : Int))] ∧ St w0 ([Zg Zu 1 9 (.slice ao3 ((l.map (Zn st)).length) cp3) (l.map (Zn st)), boxA b2 10 28 (nV n), boxA b1 8 44 (sV a0 c0 a1 c1 a2 c2 a4 c4 a6 c6 st)]) w) (fun k => l.length - k) 0 ⟨⟨#[]⟩, ⟨Nat.zero_le _, Nat.zero_le _, (by show min (12 * ((0 : Nat) : Int)) n.am ≤ ((0 : Nat) : Int); omega)⟩, J.less _ ⟨rfl, rfl, rfl, rfl, rfl, rfl, trivial⟩, E.o⟩ ?_;clear J E; clear a;rintro k a w4 ⟨tx, ⟨hi, htx, hmn⟩, J, E⟩;replace E := Bx.mk E;revert a;refine xsq<|xsr<|xr 1 rfl<|Xf 3 rfl<|Xf 6 rfl<|Xl 1 E rfl rfl<|xr 1 rfl<|xne<|xcd 17 rfl (fun _ dcc1=>?_) fun _ dcc1=>?_
 refine xct rfl<|xsk<|xet<|xsq<|xbl<|xsq ?_;have hrt := V0 hrow (l.getD k PtrD.zero); have hln := Zmc n.am k; have hlo : longN n.am k = (min 12 (n.am - (k : Int) * 12)).toNat := rfl;obtain ⟨g4, rfl, _, _, _, _⟩ := E.o.rowOpen 0 rfl (by omega);refine xrl<|xr 2 rfl<|xy rfl (vx 9 k 1 rfl)<|xy rfl (fun a J=>ylo (v := .string (Zn st (l.getD k PtrD.zero))) rfl (J.ev rfl) (E.o.elem1 Zf 0 rfl (Zgi (by omega)) rfl))<|xr 1 rfl<|xne ?_;have hap := Zl tx (Zn st (l.getD k PtrD.zero)); have hzz : (X2 (((longN n.am k) : Int) - ((Zn st (l.getD k PtrD.zero)).size : Int)).toNat).size = (((longN n.am k) : Int) - ((Zn st (l.getD k PtrD.zero)).size : Int)).toNat := ZQ _;refine xrl<|xr 2 rfl<|xy rfl (fun a J=>ZB rfl (J.ev rfl) (J.ev rfl) (by first | omega | (rw [Zl]; omega) | (rw [Zl, ZQ]; omega)))<|Xf 2 rfl<|Xl 1 E rfl rfl<|xr 1 rfl ?_;refine ycB (Zhs n.am k _ (by omega) (by omega)) func189 E ?_;clear E;intro w5 E;refine xr 1 rfl<|xy rfl (fun a J=>ZM rfl (J.ev rfl) (by kernel_rfl))<|xy rfl (fun a J=>ZO (r := (((longN n.am k) : Int) - ((Zn st (l.getD k PtrD.zero)).size : Int))) rfl (J.ev rfl) (J.ev rfl) ((Yi (by first | omega | (rw [Zl]; omega) | (rw [Zl, ZQ]; omega))).trans (by omega))) ?_;refine ycB (Zbo ((((longN n.am k) : Int) - ((Zn st (l.getD k PtrD.zero)).size : Int))) _ (by omega)) func163 E ?_;clear E;intro w6 E;refine xy rfl (fun a J=>ZB rfl (J.ev rfl) (J.ev rfl) (by first | omega | (rw [Zl]; omega) | (rw [Zl, ZQ]; omega)))<|xr 1 rfl<|xni<|xeb<|xet<|xrl<|xr 1 rfl<|xy rfl (fun a J=>Yc rfl (J.ev rfl) (J.ev rfl) (Yi (by first | omega | (rw [Zl]; omega) | (rw [Zl, ZQ]; omega))))<|xr 1 rfl<|xne ?_;intro a J;exact ⟨(k + 1), ⟨_, ⟨by omega, by rw [Zl, Zl, ZQ]; omega, by rw [Zl, Zl, ZQ]; omega⟩, J.less _ ⟨rfl, rfl, rfl, rfl, rfl, rfl, trivial⟩, E.o⟩, (by omega)⟩;refine xcf rfl<|xex<|xtx<|xtx<|xbh<|xet<|xsr<|xr 2 rfl<|xne<|xre<|xb1 results162 rfl ?_;exact ⟨_, rfl, by omega, by omega, E.o.bel⟩
theorem ZjR {P : Program} {w : World} {o : Oper} {a : Act} {x y : Operand} {tt : Array TypeId} (ho : o.op = .call { callee := .builtin .min, args := #[x, y], argTypes := tt }) {k : IntKind} {m n r : Int} (hx : a.eval x = .int k m) (hy : a.eval y = .int k n) (hr : min m n = r) : Yl P w o a (.int k r) := by
 subst hr; exact Zjm ho hx hy
theorem ZnO (s : ByteArray) : (Zdj s).size ≤ s.size := by
 exact Zks s
theorem ZcL (text : ByteArray) (k : Nat) : (Zdj (text.extract (k * 12) (min text.size ((k + 1) * 12)))).size ≤ 128 := by
 have h1 := ZnO (text.extract (k * 12) (min text.size ((k + 1) * 12)));have h2 : (text.extract (k * 12) (min text.size ((k + 1) * 12))).size ≤ 12 := by rw [size_extract]; omega
 omega
theorem ZfR (w0 w : World) (q0 : SQ) (n : Zb) {st0 : Za} {R : List PtrD} (hW0 : Wk st0 R q0.d n.ah) (text : ByteArray) (hts : text.size ≤ 20001000) (from_ to_ : Nat) (h15 : to_ ≤ 15) (hft : from_ ≤ to_) (hin : to_ * 12 ≤ text.size) (F : List Asr) (hS : St w0 (q0.asr :: F) w) : Calls prog 164 #[q0.u, nV n, .string text, .int .i64 (from_ : Int), .int .i64 (to_ : Int)] w fun e w' => ∃ (q' : SQ) (y : Ze) (b : Bool), e = .returned (.tuple #[q'.u, nPV n.aj n.ax (text.size : Int) y, .bool b]) ∧ (b = true → Wk st0 R q'.d y) ∧ (b = false → Js st0 R q'.d) ∧ St w0 (q'.asr :: F) w' := by
 have E := Bx.mk hS; clear hS;refine ent func164 ntmps164 ?_;refine xsr ?_;refine ybx E ?_;clear E;intro w1 b1 E;refine ybx E ?_;clear E;intro w2 b2 E;refine yal z8 E ?_;clear E;intro w3 b3 E;refine yal z10 E ?_;clear E;intro w4 b4 E;refine xr 1 rfl<|xne<|xsr<|xr 1 rfl<|xy rfl (fun a J=>ZM rfl (J.ev rfl) (by kernel_rfl))<|Xf 2 rfl ?_;refine ysF 2 E ?_;clear E;intro w5 E;replace E:=E.nm;refine xne<|xsq<|xsr<|xr 2 rfl<|xne<|xbl ?_;replace E:=E.pks [2,3,4];intro a J;refine Zt (ι := Nat) (fun i a w => ∃ (q2 : SQ) (y : Ze), (from_ + i ≤ to_ + 1 ∧ Wk st0 R q2.d y) ∧ Fr 57 a [(2, .string text), (3, .int .i64 (from_ : Int)), (4, .int .i64 (to_ : Int)), (5, .pointer (some ⟨b1, 0, none⟩)), (6, .pointer (some ⟨b2, 0, none⟩)), (10, .pointer (some ⟨b3, 0, none⟩)), (11, .pointer (some ⟨b4, 0, none⟩)), (12, .bool false), (13, .int .i64 ((from_ + i : Nat) : Int))] ∧ St w0 (SQ.asr q2 :: boxA b1 8 44 (q2.u) :: boxA b2 10 28 (nPV n.aj n.ax (text.size : Int) y) :: boxA b4 10 28 (ZgV) :: boxA b3 8 44 (az8) :: F) w) (fun i => to_ + 1 - (from_ + i)) 0 ⟨q0, n.ah, ⟨by omega, hW0⟩, J.less _ ⟨rfl, rfl, rfl, rfl, rfl, rfl, rfl, rfl, rfl, trivial⟩, E.o⟩ ?_;clear J E; clear a;rintro i a w6 ⟨q2, y, ⟨hi, hW⟩, J, E⟩;replace E := Bx.mk E;revert a;refine xsq<|xsr<|xr 3 rfl<|xne<|xcd 24 rfl (fun _ dcc1=>?_) fun _ dcc1=>?_
 refine xct rfl<|xsk<|xet<|xsq<|xbl<|xsr<|xr 1 rfl<|xy rfl (fun a J=>ZM rfl (J.ev rfl) (by kernel_rfl))<|xr 1 rfl<|xy rfl (vad rfl)<|xy rfl (fun a J=>Y8 rfl (J.ev rfl) (J.ev rfl) (Yi (by omega)))<|xy rfl (fun a J=>ZjR (r := ((min text.size ((from_ + i + 1) * 12) : Nat) : Int)) rfl (J.ev rfl) (J.ev rfl) (by omega))<|xr 1 rfl<|xne<|xsq ?_;intro a J;refine ZX (R := fun a w => ∃ (b5 : Nat) (b6 : Nat) (zt1 : UZ) (zq1 : SQ), zt1 = XL q2.d y (y.ps q2.d) (from_ + i) (Zdj (text.extract ((from_ + i) * 12) (min text.size ((from_ + i + 1) * 12)))) ∧ zq1.d = zt1.st ∧ (zt1.ok = false → zq1 = { q2 with d := zt1.st } ∧ Ua q2.d zt1.st) ∧ Fr 57 a [(2, .string text), (3, .int .i64 (from_ : Int)), (4, .int .i64 (to_ : Int)), (5, .pointer (some ⟨b1, 0, none⟩)), (6, .pointer (some ⟨b2, 0, none⟩)), (10, .pointer (some ⟨b3, 0, none⟩)), (11, .pointer (some ⟨b4, 0, none⟩)), (12, .bool false), (13, .int .i64 ((from_ + i : Nat) : Int)), (22, .int .i64 ((from_ + i : Nat) : Int)), (23, .int .i64 (to_ : Int)), (24, .bool true), (27, .string text), (28, .int .i64 (text.size : Int)), (29, .int .i64 ((from_ + i : Nat) : Int)), (30, .int .i64 (((from_ + i : Nat) : Int) + 1)), (31, .int .i64 ((((from_ + i : Nat) : Int) + 1) * 12)), (32, .int .i64 ((min text.size ((from_ + i + 1) * 12) : Nat) : Int)), (15, .pointer (some ⟨b5, 0, none⟩)), (16, .pointer (some ⟨b6, 0, none⟩)), (17, .bool zt1.ok)] ∧ St w0 (boxA b6 7 26 (tV zt1.t) :: boxA b5 8 44 (zq1.u) :: SQ.asr zq1 :: boxA b1 8 44 (q2.u) :: boxA b2 10 28 (nPV n.aj n.ax (text.size : Int) y) :: boxA b4 10 28 (ZgV) :: boxA b3 8 44 (az8) :: F) w) ?_ ?_;revert a;refine hld [0] E ?_;clear E;intro w7 E M;refine Hw 0 0 8 E rfl rfl<|Hf 1 3 E rfl<|Hw 2 1 7 E rfl rfl<|Hp 3 E rfl<|Hp 4 E rfl<|Hp 5 E rfl<|xhy 6 E.o rfl rfl (fun E a J=>Y8 rfl (J.ev rfl) (J.ev rfl) (Yi (by omega)))<|Hp 7 E rfl<|xhy 8 E.o rfl rfl (fun E a J=>ZaZ (i := (from_ + i) * 12) (j := min text.size ((from_ + i + 1) * 12)) rfl (J.ev rfl) (J.ev rfl) (J.ev rfl) (by kernel_rfl) (by omega) (by omega) (by omega) (by omega)) ?_
 repeat' (first | (refine yoB (i := 9) (ZiG (text.extract ((from_ + i) * 12) (min text.size ((from_ + i + 1) * 12))) _ (by rw [size_extract]; omega)) func190 ?_;intro w8 hb; replace E := Bx.mk (E.o.later hb); replace M := Bx.mk (M.o.later hb);clear hb; refine onb E.o ?_) | (refine yo (i := 10) (Zab w0 _ q2 y hW.treeX (from_ + i) (by omega) (Zdj (text.extract ((from_ + i) * 12) (min text.size ((from_ + i + 1) * 12)))) (ZcL _ _) _ hW.inv.ok (M.lk (SQ.asr q2)).out) func112 ?_;rintro _ w10 ⟨zq1, zt1, hr1, hq1, hf1, -, rfl, hs1⟩;refine ⟨_, rfl, ?_⟩; replace M := Bx.mk hs1;clear hs1;replace M:=M.nm;replace E:=E.upd M;refine onb E.o ?_) | (refine yoa (i := 15) z8 E M ?_;clear E M;intro w11 b5 E M) | (refine yoa (i := 16) z7 E M ?_;clear E M;intro w12 b6 E M) | (refine YS (i := 17) M ?_;clear E M;intro w13 E M) | (refine YS (i := 18) M ?_;clear E M;intro w14 E M) | refine rdy 11<|Hp 11 E rfl ?_ | refine rdy 12<|Hp 12 E rfl ?_ | refine rdy 13<|Hp 13 E rfl ?_ | refine rdy 14<|Hp 14 E rfl ?_ | refine rdy 19<|Hp 19 E rfl ?_ | refine VK 9 15 16 ?_ ?_ ?_ | refine YX 9 15 ?_ ?_ | refine Z2 9 ?_ | refine Z2 10 ?_ | refine Z2 17 ?_ | refine Z2 18 ?_ | refine YX 10 15 ?_ ?_ | refine Z2 15 ?_ | refine YX 9 16 ?_ ?_ | refine YX 10 16 ?_ ?_ | refine Z2 16 ?_ | refine VK 10 15 16 ?_ ?_ ?_ | refine YX 15 16 ?_ ?_ | (refine gdn ?_;intro a J;exact ZD ⟨b5, b6, zt1, zq1, hr1, hq1, hf1, J.ls _, M.o.pmA⟩))
 clear J E a; rintro a w7 ⟨b5, b6, zt1, zq1, hr1, hq1, hf1, J, E⟩; replace E := Bx.mk E;revert a;refine xet<|xsq<|xsr<|xr 2 rfl<|xne<|xcs 49 rfl (fun cc2=>?_) fun cc2=>?_
 have hok1 : zt1.ok = false := by simpa using cc2
 refine xct rfl<|xsq ?_;refine hld [6,5] E ?_;clear E;intro w8 E M;refine Hw 0 3 8 E rfl rfl<|Hw 1 4 10 E rfl rfl ?_;refine Zk 2 ?_;refine yos 6 [6,5] M ?_;clear E M;intro w9 E M;refine Zk 3 ?_;refine yos 5 [6,5] M ?_;clear E M;intro w10 E M;refine Hp 4 E rfl ?_;refine hdn ?_;replace E := M; clear M;refine xet<|xre<|xtr<|xbr<|xtr<|xtr<|xbr<|xtr ?_;intro a J;refine Zx J results164 (J.resBox rfl (E.o.box 6 rfl) (by kernel_rfl)) (J.resBox rfl (E.o.box 5 rfl) (by kernel_rfl)) (J.res rfl) ?_;replace E:=E.pks [2];obtain ⟨hfa, hfb⟩ := hf1 hok1;have hbad := (hW.put (show from_ + i < 16 by omega) (ZcL text (from_ + i)) hr1).2 hok1; rw [← hq1] at hbad;exact ⟨zq1, y, false, by rw [hfa, Zcc hW.inv.ok hfb] <;> rfl, fun h => (nomatch h), fun _ => hbad, (E.o.erS [6,5,4,3,2,1])⟩;have hok1 : zt1.ok = true := by simpa using cc2
 refine xcf rfl<|xsk<|xet<|xsr<|Xw 1 8 E rfl rfl ?_;refine yst E 3 ?_;clear E;intro w11 E;replace E:=E.nm;refine xne<|xrl<|Xw 0 7 E rfl rfl<|Xf 3 rfl ?_;intro a J;refine ZZ rfl rfl rfl (J.ev rfl) (J.ev rfl) E.o 4 rfl (by kernel_rfl) rfl (by kernel_rfl) (rs := nPL n.aj n.ax (text.size : Int) zt1.t) rfl ?_; clear E; intro w12 E; replace E := Bx.mk E;replace E:=E.nm;revert a;refine xni<|xeb<|xet<|xrl<|xr 1 rfl<|xy rfl (vad rfl)<|xr 1 rfl<|xne ?_;have hp2 := hW.put (show from_ + i < 16 by omega) (ZcL text (from_ + i)) hr1; obtain ⟨hW2, hm2⟩ := hp2.1 hok1;rw [← hq1] at hW2;replace E:=E.pks [6,6,6,6,6];intro a J;exact ⟨i + 1, ⟨_, _, ⟨by omega, hW2⟩, J.less _ ⟨rfl, rfl, rfl, rfl, rfl, rfl, rfl, rfl, rfl, trivial⟩, (E.o.erS [6,5])⟩, (by omega)⟩;refine xcf rfl<|xex<|xtx<|xtx<|xbh<|xet<|xsq ?_;refine hld [4,3] E ?_;clear E;intro w13 E M;refine Hw 0 1 8 E rfl rfl<|Hw 1 2 10 E rfl rfl ?_;refine Zk 2 ?_;refine yos 4 [4,3] M ?_;clear E M;intro w14 E M;refine Zk 3 ?_;refine yos 3 [4,3] M ?_;clear E M;intro w15 E M;refine Hp 4 E rfl ?_;refine hdn ?_;replace E := M; clear M;refine xet<|xre ?_;intro a J;refine Zx J results164 (J.resBox rfl (E.o.box 4 rfl) (by kernel_rfl)) (J.resBox rfl (E.o.box 3 rfl) (by kernel_rfl)) (J.res rfl) ?_;replace E:=E.pks [0];exact ⟨q2, y, true, rfl, fun _ => hW, fun h => (nomatch h), (E.o.erS [4,3,2,1])⟩
theorem ZgD (k : Nat) (hk : k ≤ 1000) (w0 : World) : Calls prog 47 #[.int .i64 (k : Int), .int .i64 12] w0 fun e w' => e = .returned (.int .i64 (((k + 11) / 12 : Nat) : Int)) ∧ Below w0.heap.size w0 w' := by
 have h := ZaL (k : Int) 12 (by omega) (by omega) (by omega) (by omega) w0;rw [show ((k : Int) + 12 - (1 : Int)) / 12 = (((k + 11) / 12 : Nat) : Int) from by omega] at h;exact h
theorem Zdd (w0 w : World) (q0 : SQ) (n : Zb) {st0 : Za} {R : List PtrD} (hW0 : Wk st0 R q0.d n.ah) (hok : n.ok = true) (hkd : n.aj = 1) (at_ : Nat) (text : ByteArray) (hat : at_ + text.size ≤ 192) (F : List Asr) (hS : St w0 (q0.asr :: F) w) : Calls prog 127 #[q0.u, nV n, .int .i64 (at_ : Int), .string text] w fun e w' => ∃ (q' : SQ) (sz : Int) (y : Ze) (b : Bool), e = .returned (.tuple #[q'.u, nPV n.aj n.ax sz y, .bool b]) ∧ (b = true → Wk st0 R q'.d y) ∧ (b = false → Js st0 R q'.d) ∧ St w0 (q'.asr :: F) w' := by
 have E := Bx.mk hS; clear hS; have hX := hW0.treeX; have hrow := Xm hW0.inv.ok; have hfs := Zbc hok (ZmN hkd);refine ent func127 ntmps127 ?_;refine xsr ?_;refine ybx E ?_;clear E;intro w1 b1 E;refine ybx E ?_;clear E;intro w2 b2 E;refine yal z8 E ?_;clear E;intro w3 b3 E;refine yal z10 E ?_;clear E;intro w4 b4 E;refine xr 1 rfl<|xne<|xsq<|xsr<|xr 1 rfl<|xy rfl (fun a J=>Y7 rfl (J.ev rfl) (J.ev rfl))<|xne<|xcs 14 rfl (fun cc1=>?_) fun cc1=>?_;refine xct rfl<|xsq ?_;refine hld [1,0] E ?_;clear E;intro w5 E M;refine Hw 0 1 8 E rfl rfl<|Hw 1 0 10 E rfl rfl ?_;refine Zk 2 ?_;refine yos 1 [1,0] M ?_;clear E M;intro w6 E M;refine Zk 3 ?_;refine yos 0 [1,0] M ?_;clear E M;intro w7 E M;refine Hp 4 E rfl ?_;refine hdn ?_;replace E := M; clear M;refine xet<|xre<|xtr ?_;intro a J;refine Zx J results127 (J.resBox rfl (E.o.box 1 rfl) (by kernel_rfl)) (J.resBox rfl (E.o.box 0 rfl) (by kernel_rfl)) (J.res rfl) ?_;replace E:=E.pks [4];exact ⟨q0, _, n.ah, true, rfl, fun _ => hW0, fun h => (nomatch h), (E.o.erS [4,3,2,1])⟩;refine xcf rfl<|xsk<|xet<|xsq ?_;have htz : text.size ≠ 0 := Uc (by simpa using cc1);refine xrl<|Xw 3 8 E rfl rfl<|Xw 2 10 E rfl rfl ?_;refine yc (ZfQ q0.a0 q0.c0 q0.a1 q0.c1 q0.a2 q0.c2 q0.a4 q0.c4 q0.a6 q0.c6 q0.d n hX hok hkd _ (E.o.sqRd 4 rfl) hrow) func162 ?_;rintro _ w8 ⟨s9, rfl, hs9a, hs9b, hb⟩;refine ⟨_, rfl, ?_⟩; replace E := Bx.mk (E.o.later hb);clear hb;refine xr 1 rfl<|xne<|xsr<|xr 3 rfl<|xy rfl (fun a J=>ZM rfl (J.ev rfl) (by kernel_rfl))<|xy rfl (fun a J=>ZO rfl (J.ev rfl) (J.ev rfl) (Yi (by first | omega | (simp only [Zl, ZQ, size_extract]; omega)))) ?_;refine ycB (Zbo ((at_ : Int) - (s9.size : Int)) _ (by omega)) func163 E ?_;clear E;intro w9 E;refine xy rfl (fun a J=>ZB rfl (J.ev rfl) (J.ev rfl) (by first | omega | (simp only [Zl, ZQ, size_extract]; omega)))<|xr 1 rfl<|xne<|xsq ?_;have hU : (s9 ++ X2 ((at_ : Int) - (s9.size : Int)).toNat).size = s9.size + ((at_ : Int) - (s9.size : Int)).toNat := by rw [Zl, ZQ]
 refine xrl<|xr 1 rfl<|xy rfl (fun a J=>ZM rfl (J.ev rfl) (by kernel_rfl))<|xr 2 rfl<|xy rfl (fun a J=>ZM rfl (J.ev rfl) (by kernel_rfl))<|xy rfl (fun a J=>Yc rfl (J.ev rfl) (J.ev rfl) (Yi (by first | omega | (simp only [Zl, ZQ, size_extract]; omega))))<|xy rfl (fun a J=>ZjR (r := ((min (s9 ++ X2 ((at_ : Int) - (s9.size : Int)).toNat).size (at_ + text.size) : Nat) : Int)) rfl (J.ev rfl) (J.ev rfl) (by omega))<|xr 1 rfl<|xne<|xsq ?_;intro a J;refine Yf (by kernel_rfl) (by kernel_rfl) E.o ?_;revert a;refine xqr 2 rfl<|xq rfl (fun E a J=>XY (k := at_) rfl (J.ev rfl) (J.ev rfl) (by kernel_rfl) (by omega) (by omega))<|xqr 1 rfl<|xq rfl (fun E a J=>ZB rfl (J.ev rfl) (J.ev rfl) (by first | omega | (simp only [Zl, ZQ, size_extract]; omega)))<|xqr 2 rfl<|xq rfl (fun E a J=>Qu (k := min (s9 ++ X2 ((at_ : Int) - (s9.size : Int)).toNat).size (at_ + text.size)) rfl (J.ev rfl) (J.ev rfl) (by kernel_rfl) (by omega) (by omega))<|xq rfl (fun E a J=>ZB rfl (J.ev rfl) (J.ev rfl) (by first | omega | (simp only [Zl, ZQ, size_extract]; omega)))<|xqr 1 rfl ?_;intro a J;refine wpQuiet_nil ?_; intro w10 E; replace E := Bx.mk E;refine Y9<|wp_seq ?_;have hT : ((((s9 ++ (X2 ((at_ : Int) - (s9.size : Int)).toNat)).extract 0 at_) ++ text) ++ ((s9 ++ (X2 ((at_ : Int) - (s9.size : Int)).toNat)).extract (min (s9 ++ X2 ((at_ : Int) - (s9.size : Int)).toNat).size (at_ + text.size)) (s9 ++ (X2 ((at_ : Int) - (s9.size : Int)).toNat)).size)).size = at_ + text.size + ((s9 ++ X2 ((at_ : Int) - (s9.size : Int)).toNat).size - min (s9 ++ X2 ((at_ : Int) - (s9.size : Int)).toNat).size (at_ + text.size)) := by rw [Zl, Zl, size_extract, size_extract]; omega
 revert a;refine xrl<|Xw 3 8 E rfl rfl<|Xw 2 10 E rfl rfl<|xr 2 rfl<|xy rfl (fun a J=>Jc rfl (J.ev rfl) (J.ev rfl) (by omega) (Je (by omega) (by omega) (by omega)))<|xr 2 rfl<|xy rfl (fun a J=>ZM rfl (J.ev rfl) (by kernel_rfl))<|xy rfl (fun a J=>Yc rfl (J.ev rfl) (J.ev rfl) (Yi (by first | omega | (simp only [Zl, ZQ, size_extract]; omega))))<|xy rfl (fun a J=>ZO (r := ((at_ + text.size - 1 : Nat) : Int)) rfl (J.ev rfl) (J.ev rfl) ((Yi (by first | omega | (simp only [Zl, ZQ, size_extract]; omega))).trans (by omega)))<|xy rfl (fun a J=>Jc rfl (J.ev rfl) (J.ev rfl) (by omega) (Je (by omega) (by omega) (by omega))) ?_;replace E:=E.pks [4];refine yc (ZfR w0 _ q0 n hW0 ((((s9 ++ (X2 ((at_ : Int) - (s9.size : Int)).toNat)).extract 0 at_) ++ text) ++ ((s9 ++ (X2 ((at_ : Int) - (s9.size : Int)).toNat)).extract (min (s9 ++ X2 ((at_ : Int) - (s9.size : Int)).toNat).size (at_ + text.size)) (s9 ++ (X2 ((at_ : Int) - (s9.size : Int)).toNat)).size)) (by omega) (at_ / 12) ((at_ + text.size - 1) / 12) (by omega) (by omega) (by omega) _ E.o) func164 ?_;rintro _ w11 ⟨zq1, zy1, zb1, rfl, hp1, hp2, hs1⟩;refine ⟨_, rfl, ?_⟩; replace E := Bx.mk hs1;clear hs1;refine xr 3 rfl ?_;refine yst E 2 ?_;clear E;intro w12 E;replace E:=E.nm;refine yst E 1 ?_;clear E;intro w13 E;replace E:=E.nm;refine xr 1 rfl<|xne<|xre ?_;intro a J;refine Zx J results127 (J.resBox rfl (E.o.box 2 rfl) (by kernel_rfl)) (J.resBox rfl (E.o.box 1 rfl) (by kernel_rfl)) (J.res rfl) ?_;replace E:=E.pks [0];exact ⟨zq1, _, zy1, zb1, rfl, hp1, hp2, (E.o.erS [4,3,2,1])⟩
theorem ZfS (w0 w : World) (q0 : SQ) (n : Zb) {st0 : Za} {R : List PtrD} (hW0 : Wk st0 R q0.d n.ah) (hok : n.ok = true) (hkd : n.aj = 1) (size_ : Nat) (hsz : size_ ≤ 192) (F : List Asr) (hS : St w0 (q0.asr :: F) w) : Calls prog 128 #[q0.u, nV n, .int .i64 (size_ : Int)] w fun e w' => ∃ (q' : SQ) (sz : Int) (y : Ze) (b : Bool), e = .returned (.tuple #[q'.u, nPV n.aj n.ax sz y, .bool b]) ∧ (b = true → Wk st0 R q'.d y) ∧ (b = false → Js st0 R q'.d) ∧ St w0 (q'.asr :: F) w' := by
 have E := Bx.mk hS; clear hS; have hX := hW0.treeX; have hrow := Xm hW0.inv.ok; have hfs := Zbc hok (ZmN hkd);refine ent func128 ntmps128 ?_;refine xsr ?_;refine ybx E ?_;clear E;intro w1 b1 E;refine ybx E ?_;clear E;intro w2 b2 E;refine yal z8 E ?_;clear E;intro w3 b3 E;refine yal z10 E ?_;clear E;intro w4 b4 E;refine xr 1 rfl<|xne<|xsr<|Xw 3 8 E rfl rfl<|Xw 2 10 E rfl rfl ?_;refine yc (ZfQ q0.a0 q0.c0 q0.a1 q0.c1 q0.a2 q0.c2 q0.a4 q0.c4 q0.a6 q0.c6 q0.d n hX hok hkd _ (E.o.sqRd 4 rfl) hrow) func162 ?_;rintro _ w5 ⟨s9, rfl, hs9a, hs9b, hb⟩;refine ⟨_, rfl, ?_⟩; replace E := Bx.mk (E.o.later hb);clear hb;refine xr 1 rfl<|xne<|xsr<|xr 1 rfl ?_;refine ycB (ZgD size_ (by omega) _) func47 E ?_;clear E;intro w6 E;refine xr 1 rfl<|xne<|xsq<|xsr<|xr 1 rfl<|Xf 2 rfl<|Xl 2 E rfl rfl<|xr 1 rfl<|xne<|xcd 25 rfl (fun _ dcc1=>?_) fun _ dcc1=>?_;refine xct rfl<|xsr<|xr 3 rfl<|xy rfl (fun a J=>ZM rfl (J.ev rfl) (by kernel_rfl))<|xy rfl (fun a J=>ZO rfl (J.ev rfl) (J.ev rfl) (Yi (by first | omega | (simp only [Zl, ZQ, size_extract]; omega)))) ?_;refine ycB (Zbo ((size_ : Int) - (s9.size : Int)) _ (by omega)) func163 E ?_;clear E;intro w7 E;refine xy rfl (fun a J=>ZB rfl (J.ev rfl) (J.ev rfl) (by first | omega | (simp only [Zl, ZQ, size_extract]; omega)))<|xr 1 rfl<|xne<|xsr<|xr 1 rfl<|Xf 2 rfl ?_;refine ysF 2 E ?_;clear E;intro w8 E;replace E:=E.nm;refine xne<|xsq<|xsr<|xr 1 rfl<|Xf 3 rfl<|Xf 6 rfl<|Xl 2 E rfl rfl<|xr 1 rfl<|xne<|xce 39 rfl (fun _ dcc2=>?_) fun _ dcc2=>?_;refine xct rfl<|xsq ?_;refine hld [1,0] E ?_;clear E;intro w9 E M;refine Hw 0 1 8 E rfl rfl<|Hw 1 0 10 E rfl rfl ?_;refine Zk 2 ?_;refine yos 1 [1,0] M ?_;clear E M;intro w10 E M;refine Zk 3 ?_;refine yos 0 [1,0] M ?_;clear E M;intro w11 E M;refine Hp 4 E rfl ?_;refine hdn ?_;replace E := M; clear M;refine xet<|xre<|xtr<|xtr ?_;intro a J;refine Zx J results128 (J.resBox rfl (E.o.box 1 rfl) (by kernel_rfl)) (J.resBox rfl (E.o.box 0 rfl) (by kernel_rfl)) (J.res rfl) ?_;replace E:=E.pks [4];exact ⟨q0, _, n.ah, true, rfl, fun _ => hW0, fun h => (nomatch h), (E.o.erS [4,3,2,1])⟩;refine xcf rfl<|xsk<|xet<|xsr<|Xw 3 8 E rfl rfl<|Xf 3 rfl<|Xw 2 7 E rfl rfl<|xr 1 rfl<|xy rfl (fun a J=>ZO (r := (((size_ + 11) / 12 - 1 : Nat) : Int)) rfl (J.ev rfl) (J.ev rfl) ((Yi (by first | omega | (simp only [Zl, ZQ, size_extract]; omega))).trans (by omega))) ?_;replace E:=E.pks [4];refine yc (Zab w0 _ q0 n.ah hX ((size_ + 11) / 12 - 1) (by omega) ByteArray.empty (Nat.zero_le _) _ hW0.inv.ok E.o) func112 ?_;rintro _ w12 ⟨zq2, zt2, hr2, hq2, hf2, -, rfl, hs1⟩;refine ⟨_, rfl, ?_⟩; replace E := Bx.mk hs1;clear hs1;refine xr 4 rfl ?_;refine yal z8 E ?_;clear E;intro w13 b5 E;refine yal z7 E ?_;clear E;intro w14 b6 E;refine yst E 1 ?_;clear E;intro w15 E;replace E:=E.nm;refine yst E 0 ?_;clear E;intro w16 E;replace E:=E.nm;refine xr 1 rfl<|xne<|xsr<|Xw 0 7 E rfl rfl<|Xf 3 rfl ?_;intro a J;refine ZZ rfl rfl rfl (J.ev rfl) (J.ev rfl) E.o 5 rfl (by kernel_rfl) rfl (by kernel_rfl) (rs := nPL n.aj n.ax (size_ : Int) zt2.t) rfl ?_; clear E; intro w17 E; replace E := Bx.mk E;replace E:=E.nm;revert a;refine xne<|xsq ?_;refine hld [4,3] E ?_;clear E;intro w18 E M;refine Hw 0 1 8 E rfl rfl<|Hw 1 3 10 E rfl rfl<|Hp 2 E rfl ?_;refine Zk 3 ?_;refine yos 4 [4,3] M ?_;clear E M;intro w19 E M;refine Zk 4 ?_;refine yos 3 [4,3] M ?_;clear E M;intro w20 E M;refine Hp 5 E rfl ?_;refine hdn ?_;replace E := M; clear M;refine xet<|xre<|xtr ?_;intro a J;refine Zx J results128 (J.resBox rfl (E.o.box 4 rfl) (by kernel_rfl)) (J.resBox rfl (E.o.box 3 rfl) (by kernel_rfl)) (J.res rfl) ?_;replace E:=E.pks [2];have hc := hW0.put (show (size_ + 11) / 12 - 1 < 16 by omega) (Nat.zero_le _) hr2; rw [← hq2] at hc;exact ⟨zq2, _, zt2.t, zt2.ok, rfl, fun h => (hc.1 h).1, hc.2, (E.o.erS [6,5,4,3,2,1])⟩;refine xcf rfl<|xsk<|xet<|xsr<|Xw 3 8 E rfl rfl<|Xf 3 rfl<|Xw 2 7 E rfl rfl<|xr 1 rfl ?_;replace E:=E.pks [4];refine yc (Zer w0 _ q0 n.ah hX ((size_ + 11) / 12) (by omega) _ hW0.inv.ok E.o) func159 ?_;rintro _ w21 ⟨zq3, zt3, hr3, hq3, hf3, -, rfl, hs1⟩;refine ⟨_, rfl, ?_⟩; replace E := Bx.mk hs1;clear hs1;have hc3 := hW0.cut (show (((size_ + 11) / 12 : Nat) : Int) ≤ n.ah.ai by omega) hr3; rw [← hq3] at hc3;refine xr 4 rfl ?_;refine yal z8 E ?_;clear E;intro w22 b7 E;refine yal z7 E ?_;clear E;intro w23 b8 E;refine yst E 1 ?_;clear E;intro w24 E;replace E:=E.nm;refine yst E 0 ?_;clear E;intro w25 E;replace E:=E.nm;refine xr 1 rfl<|xne<|xsq<|xsr<|xr 2 rfl<|xne<|xcs 67 rfl (fun cc3=>?_) fun cc3=>?_;have hok3 : zt3.ok = false := by simpa using cc3
 refine xct rfl<|xsq ?_;refine hld [4,3] E ?_;clear E;intro w26 E M;refine Hw 0 4 8 E rfl rfl<|Hw 1 3 10 E rfl rfl ?_;refine Zk 2 ?_;refine yos 4 [4,3] M ?_;clear E M;intro w27 E M;refine Zk 3 ?_;refine yos 3 [4,3] M ?_;clear E M;intro w28 E M;refine Hp 4 E rfl ?_;refine hdn ?_;replace E := M; clear M;refine xet<|xre<|xtr ?_;intro a J;refine Zx J results128 (J.resBox rfl (E.o.box 4 rfl) (by kernel_rfl)) (J.resBox rfl (E.o.box 3 rfl) (by kernel_rfl)) (J.res rfl) ?_;replace E:=E.pks [2];obtain ⟨hfa, hfb⟩ := hf3 hok3;exact ⟨zq3, _, n.ah, false, by rw [hfa, Zcc hW0.inv.ok hfb] <;> rfl, fun h => (nomatch h), fun _ => hc3.2 hok3, (E.o.erS [6,5,4,3,2,1])⟩;have hok3 : zt3.ok = true := by simpa using cc3
 have hW3 := (hc3.1 hok3).1;refine xcf rfl<|xsk<|xet<|xsr<|Xw 0 7 E rfl rfl<|Xf 3 rfl ?_;intro a J;refine ZZ rfl rfl rfl (J.ev rfl) (J.ev rfl) E.o 5 rfl (by kernel_rfl) rfl (by kernel_rfl) (rs := nPL n.aj n.ax n.am zt3.t) rfl ?_; clear E; intro w29 E; replace E := Bx.mk E;replace E:=E.nm;revert a;refine xne<|xsr<|xr 1 rfl<|Xf 2 rfl ?_;refine ysF 5 E ?_;clear E;intro w30 E;replace E:=E.nm;refine xne<|xsq<|xsq ?_;have hex : (s9.extract 0 size_).size = size_ := by rw [size_extract]; omega
 refine xrl<|xr 2 rfl<|xne<|xce 75 rfl (fun _ dcc4=>?_) fun _ dcc4=>?_;refine xct rfl<|xsq ?_;refine hld [4,3] E ?_;clear E;intro w31 E M;refine Hw 0 1 8 E rfl rfl<|Hw 1 3 10 E rfl rfl ?_;refine Zk 2 ?_;refine yos 4 [4,3] M ?_;clear E M;intro w32 E M;refine Zk 3 ?_;refine yos 3 [4,3] M ?_;clear E M;intro w33 E M;refine Hp 4 E rfl ?_;refine hdn ?_;replace E := M; clear M;refine xet<|xre<|xtr ?_;intro a J;refine Zx J results128 (J.resBox rfl (E.o.box 4 rfl) (by kernel_rfl)) (J.resBox rfl (E.o.box 3 rfl) (by kernel_rfl)) (J.res rfl) ?_;replace E:=E.pks [2];exact ⟨zq3, _, zt3.t, true, rfl, fun _ => hW3, fun h => (nomatch h), (E.o.erS [6,5,4,3,2,1])⟩;refine xcf rfl<|xsk<|xet<|xsq ?_;refine hld [4,3,2] E ?_;clear E;intro w34 E M;refine Hw 0 1 8 E rfl rfl<|Hw 1 2 10 E rfl rfl<|Hp 2 E rfl<|Hp 3 E rfl<|xhy 4 E.o rfl rfl (fun E a J=>XY (k := size_) rfl (J.ev rfl) (J.ev rfl) (by kernel_rfl) (by omega) (by omega))<|Hp 5 E rfl<|xhy 6 E.o rfl rfl (fun E a J=>ZO (r := (((size_ + 11) / 12 - 1 : Nat) : Int)) rfl (J.ev rfl) (J.ev rfl) ((Yi (by first | omega | (simp only [Zl, ZQ, size_extract]; omega))).trans (by omega)))<|Hp 7 E rfl<|xhy 8 E.o rfl rfl (fun E a J=>ZO (r := (((size_ + 11) / 12 - 1 : Nat) : Int)) rfl (J.ev rfl) (J.ev rfl) ((Yi (by first | omega | (simp only [Zl, ZQ, size_extract]; omega))).trans (by omega))) ?_;refine Zk 9 ?_;intro a J;replace M:=M.pks [2];revert a;refine yo (ZfR w0 _ zq3 (Zb.mk n.aj n.ax (size_ : Int) zt3.t) hW3 (s9.extract 0 size_) (by omega) ((size_ + 11) / 12 - 1) ((size_ + 11) / 12 - 1) (by omega) (by omega) (by omega) _ M.o) func164 ?_;rintro _ w36 ⟨zq1, zy1, zb1, rfl, hp1, hp2, hs1⟩;refine ⟨_, rfl, ?_⟩; replace M := Bx.mk hs1;clear hs1;intro a J;replace M:=M.nm;clear E;have E:=M.ers [4,3,0];refine ⟨E.o, ?_⟩;revert a;refine Hp 10 E rfl<|Hp 11 E rfl<|Hp 12 E rfl ?_;refine Zk 13 ?_;refine yos 4 [4,3,0] M ?_;clear E M;intro w37 E M;refine Zk 14 ?_;refine yos 3 [4,3,0] M ?_;clear E M;intro w38 E M;refine Hp 15 E rfl ?_;refine hdn ?_;replace E := M; clear M;refine xet<|xre ?_;intro a J;refine Zx J results128 (J.resBox rfl (E.o.box 4 rfl) (by kernel_rfl)) (J.resBox rfl (E.o.box 3 rfl) (by kernel_rfl)) (J.res rfl) ?_;replace E:=E.pks [0];exact ⟨zq1, _, zy1, zb1, rfl, hp1, hp2, (E.o.erS [6,5,4,3,2,1])⟩
noncomputable def nodeP (st : Za) (t : Ze) (k : Nat) : Option Zb := if (k : Int) < t.ai then J2 ((t.tx st).getD k ByteArray.empty) else none
theorem FS.node {st : Za} {t : Ze} {ns : List (Option Zb)} {R : List PtrD} (h : FS st t ns R) (k : Nat) : nodeP st t k = ns.getD k none := by
 unfold nodeP
 by_cases hk : (k : Int) < t.ai
 ·have hm := h.tv.many
  rw [if_pos hk, h.tx];have e : (ns.map Xh).getD k ByteArray.empty = Xh (ns.getD k none) := by
   rw [getD_eq_getElem?_getD, getD_eq_getElem?_getD, List.getElem?_map]
   cases ns[k]? <;> rfl
  rw [e]
  cases hg : ns.getD k none with
  | none => exact Zhj fun n hn he => ZhS hn (by rw [he]; rfl)
  | some n => exact Zau (h.ok n (Yo hg).1) rfl
 ·rw [if_neg hk, h.out (by omega)]
theorem ZhU {st : Za} {t : Ze} {k : Nat} {n : Zb} (h : nodeP st t k = some n) : n.ok = true ∧ (k : Int) < t.ai := by
 unfold nodeP at h
 split at h
 ·exact ⟨(ZdW h).1, by assumption⟩
 ·cases h
def TK (a b : Za) : Prop := b.av = a.av ∧ b.az = a.az
theorem TK.refl (a : Za) : TK a a := ⟨rfl, rfl⟩
theorem TK.trans {a b c : Za} (h : TK a b) (k : TK b c) : TK a c := ⟨k.1.trans h.1, k.2.trans h.2⟩
theorem Z5.tk {a b : Za} {X : List PtrD} (h : Z5 a b X) : TK a b := ⟨h.txg, h.keep⟩
theorem ZiX {st : Za} {t : Ze} {R : List PtrD} {k : Nat} {text : ByteArray} (hI : Inv st (t.all st ++ R)) (hT : TV st t) (hk : k < 16) (htl : text.size ≤ 128) : TK st (XL st t (t.ps st) k text).st := by
 obtain ⟨p1, p2⟩ := Zez (k := k) hI hT hk htl
 cases h : (XL st t (t.ps st) k text).ok with
 | true => exact (p1 h).kp.tk
 | false => exact (p2 h).kp.tk
theorem ZoL {st : Za} {t : Ze} {R : List PtrD} {many : Nat} (hI : Inv st (t.all st ++ R)) (hT : TV st t) (hm : (many : Int) ≤ t.ai) : TK st (Q0 st t (t.ps st) many).st := by
 obtain ⟨p1, p2⟩ := ZeA (many := many) hI hT hm
 cases h : (Q0 st t (t.ps st) many).ok with
 | true => exact (p1 h).kp.tk
 | false => exact (p2 h).kp.tk
theorem ZjS {st : Za} : ∀ {n : Nat} {p : PtrD}, Wf st n p → (allL st n p).length ≤ wg n
 | 0, p, _ => by
  cases hh : p.hole with
  | true => rw [ZW hh]; exact Nat.zero_le _
  | false => rw [QB hh]; exact Nat.le_refl _
 | n + 1, p, ⟨ho, hb, l, hk, hw⟩ => by
  cases hh : p.hole with
  | true => rw [ZW hh]; exact Nat.zero_le _
  | false =>
   rw [Y0 hh hk, length_cons];have h4 := VX hk;have key : ∀ m : List PtrD, (∀ q ∈ m, Wf st n q) → (m.flatMap (allL st n)).length ≤ m.length * wg n := by
    intro m
    induction m with
    | nil => intro _; simp
    | cons q r ih =>
     intro hq;rw [flatMap_cons, length_append, length_cons, Nat.succ_mul];have := ZjS (hq q (mem_cons_self ..)); have := ih fun x hx => hq x (mem_cons_of_mem _ hx); omega
   have := key l hw;rw [h4] at this;show _ ≤ 1 + 4 * wg n
   omega
theorem TV.all21 {st : Za} {t : Ze} (h : TV st t) : (t.all st).length ≤ 21 := by
 have h1 := ZjS h.wf;have h2 := YV t.ai;refine Nat.le_trans h1 ?_;rcases (by omega : depthN t.ai = 0 ∨ depthN t.ai = 1 ∨ depthN t.ai = 2) with e | e | e <;> rw [e] <;> decide
theorem Zpn {st : Za} {t : Ze} (h : TV st t) : ((t.ps st).take t.ai.toNat).map (Zn st) = (t.tx st).take t.ai.toNat := by
 unfold Ze.tx Zo;rw [← List.map_take, List.take_append_of_le_length h.len.2.2]
theorem ZnP {st : Za} {t : Ze} {ns : List (Option Zb)} {R : List PtrD} (h : FS st t ns R) : ((t.ps st).take t.ai.toNat).map (Zn st) = (ns.take t.ai.toNat).map Xh := by rw [Zpn h.tv, h.tx, List.map_take]
theorem ZeB {ns : List (Option Zb)} {m k : Nat} (hk : k < m) (hm : m ≤ ns.length) : ((ns.take m).map Xh).getD k ByteArray.empty = Xh (ns.getD k none) := by
 rw [getD_eq_getElem?_getD, List.getElem?_map, List.getElem?_take_of_lt hk, getD_eq_getElem?_getD]
 cases ns[k]? <;> rfl
theorem ZfT (q : SQ) (t : Ze) (hF : FB q.d t) (k : Nat) (hk : k < 16) (w0 : World) (hR : Rd Zu 1 w0 q.a0 q.d.ac.length q.d.ac) : Calls prog 156 #[q.u, tV t, .int .i64 (k : Int)] w0 fun e w' => e = .returned (.tuple #[nV ((nodeP q.d t k).getD Zb.zero), .bool (nodeP q.d t k).isSome]) ∧ Below w0.heap.size w0 w' := by
 have X := hF.treeX; have hmm := hF.tv.many; have hrow := Xm hF.ok; have HR := Bx.mk hR; clear hR;have E := Bx.mk (St.start w0);refine ent func156 ntmps156 ?_;refine xsr ?_;refine ybx E ?_;clear E;intro w1 b1 E;refine ybx E ?_;clear E;intro w2 b2 E;refine yal z10 E ?_;clear E;intro w3 b3 E;refine xr 1 rfl<|xne<|xsq<|xsr<|xr 1 rfl<|Xf 6 rfl<|Xl 1 E rfl rfl<|xy rfl (fun a J=>ZO rfl (J.ev rfl) (J.ev rfl) (Yi (by omega))) ?_;refine ycB ((Yb (k : Int) 0 (t.ai - 1) _).mono fun _ _ h => ⟨h.1, h.2 ▸ Below.refl _ _⟩) func25 E ?_;clear E;intro w4 E;refine xr 1 rfl<|xne<|xcs 13 rfl (fun cc1=>?_) fun cc1=>?_;have hin : inB (k : Int) 0 (t.ai - 1) = false := by simpa using cc1
 refine xct rfl<|xsr<|xy rfl (vb z10 rfl) ?_;refine yst E 0 ?_;clear E;intro w5 E;replace E:=E.nm;refine xr 1 rfl<|xne<|xre<|xtr ?_;intro a J;refine Zw J results156 (J.resBox rfl (E.o.box 0 rfl) (by kernel_rfl)) (J.res rfl) ?_;have hP : nodeP q.d t k = none := by unfold nodeP; rw [if_neg fun h9 => by rw [XU (by omega) (by omega)] at hin; cases hin]
 exact ⟨by rw [hP] <;> rfl, E.o.bel⟩;have hin : inB (k : Int) 0 (t.ai - 1) = true := by simpa using cc1
 have hkk := Zs hin;refine xcf rfl<|xsk<|xet<|xsr<|Xw 2 8 E rfl rfl<|Xw 1 7 E rfl rfl<|xr 1 rfl ?_;refine ycB (ZfE q.a0 q.c0 q.a1 q.c1 q.a2 q.c2 q.a4 q.c4 q.a6 q.c6 q.d t X.dn X.dep X.x16 X.xok k hk _ (HR.out.below E.o.bel) hrow) func188 E ?_;clear E;intro w6 E;refine yc (XJ (Zn q.d ((Zo (t.ps q.d)).getD k PtrD.zero)) _ (V0 hrow _)) func14 ?_;rintro _ w7 (⟨n, hno, hnb, rfl, hb⟩ | ⟨hnn, rfl, hb⟩);refine ⟨_, rfl, ?_⟩; replace E := Bx.mk (E.o.later hb);clear hb;refine xr 2 rfl ?_;refine yst E 0 ?_;clear E;intro w8 E;replace E:=E.nm;refine xr 1 rfl<|xne<|xre ?_;intro a J;refine Zw J results156 (J.resBox rfl (E.o.box 0 rfl) (by kernel_rfl)) (J.res rfl) ?_;have hP : nodeP q.d t k = some n := by unfold nodeP; rw [if_pos (by omega), Zex hF.tv hk]; exact Zau hno hnb
 exact ⟨by rw [hP] <;> rfl, E.o.bel⟩;refine ⟨_, rfl, ?_⟩; replace E := Bx.mk (E.o.later hb);clear hb;refine xr 2 rfl ?_;refine yst E 0 ?_;clear E;intro w9 E;replace E:=E.nm;refine xr 1 rfl<|xne<|xre ?_;intro a J;refine Zw J results156 (J.resBox rfl (E.o.box 0 rfl) (by kernel_rfl)) (J.res rfl) ?_;have hP : nodeP q.d t k = none := by unfold nodeP; rw [if_pos (by omega), Zex hF.tv hk]; exact Zhj hnn
 exact ⟨by rw [hP] <;> rfl, E.o.bel⟩
theorem FS.fs_x {st : Za} {t : Ze} {ns : List (Option Zb)} {R : List PtrD} (h : FS st t ns R) : TreeX st t (t.ps st) ((t.ps st).take t.ai.toNat) := h.fb.treeX
theorem ZeC (q : SQ) (t : Ze) {ns : List (Option Zb)} {R : List PtrD} (h : FS q.d t ns R) (w0 : World) (hR : Rd Zu 1 w0 q.a0 q.d.ac.length q.d.ac) : Calls prog 70 #[.agg #[.slice q.a0 q.d.ac.length q.c0, .slice q.a1 q.d.aa.ag.length q.c1, .slice q.a2 q.d.aa.au.length q.c2, .int .i64 q.d.av, .slice q.a4 q.d.ak.length q.c4, .int .i64 q.d.az, .slice q.a6 q.d.ar.length q.c6, .bool q.d.aA], .agg #[.int .i64 t.af.aC, .int .i64 t.af.al, .int .i64 t.af.am, .int .i64 t.af.aB, .int .i64 t.af.aq, .int .i64 t.aw, .int .i64 t.ai]] w0 fun e w' => ∃ ao cp, e = .returned (.slice ao ((ns.take t.ai.toNat).map Xh).length cp) ∧ St w0 [Zg Zu 1 9 (.slice ao ((ns.take t.ai.toNat).map Xh).length cp) ((ns.take t.ai.toNat).map Xh)] w' := by
 have h2 := Zaw q.a0 q.c0 q.a1 q.c1 q.a2 q.c2 q.a4 q.c4 q.a6 q.c6 q.d t h.fs_x w0 hR (Xm h.inv.ok);rw [ZnP h] at h2; exact h2
theorem ZiY (q : SQ) (t : Ze) {ns : List (Option Zb)} {R : List PtrD} (hF : FS q.d t ns R) (w0 : World) (hR : Rd Zu 1 w0 q.a0 q.d.ac.length q.d.ac) : Calls prog 114 #[q.u, tV t] w0 fun e w' => (e = .returned (.int .i64 (-1)) ∧ Below w0.heap.size w0 w') ∨ (∃ i : Nat, i < 16 ∧ ns.getD i none = none ∧ e = .returned (.int .i64 (i : Int)) ∧ Below w0.heap.size w0 w') := by
 have hln := hF.len; have hmm := hF.tv.many; have hll : ((ns.take t.ai.toNat).map Xh).length = t.ai.toNat := by rw [length_map, length_take]; omega
 have HR := Bx.mk hR; clear hR;have E := Bx.mk (St.start w0);refine ent func114 ntmps114 ?_;refine xsr ?_;refine ybx E ?_;clear E;intro w1 b1 E;refine ybx E ?_;clear E;intro w2 b2 E;refine xr 1 rfl<|xne<|xsr<|Xw 1 8 E rfl rfl<|Xw 0 7 E rfl rfl ?_;refine yc (ZeC q t hF _ (HR.out.below E.o.bel)) func70 ?_;rintro _ w3 ⟨ao3, cp3, rfl, hs⟩;refine ⟨_, rfl, ?_⟩;replace E := E.ad hs;clear hs;refine xr 1 rfl<|xne<|xsq<|xsr<|xr 1 rfl<|xne<|xbl ?_;intro a J;refine Zt (ι := Nat) (fun i a w => (i ≤ 16) ∧ Fr 26 a [(2, .pointer (some ⟨b1, 0, none⟩)), (3, .pointer (some ⟨b2, 0, none⟩)), (5, .slice ao3 (((ns.take t.ai.toNat).map Xh).length) cp3), (6, .int .i64 (i : Int))] ∧ St w0 ([Zg Zu 1 9 (.slice ao3 (((ns.take t.ai.toNat).map Xh).length) cp3) ((ns.take t.ai.toNat).map Xh), boxA b2 7 26 (tV t), boxA b1 8 44 (q.u)]) w) (fun i => 16 - i) 0 ⟨Nat.zero_le _, J.ls _, E.o⟩ ?_;clear J E; clear a;rintro i a w4 ⟨hi, J, E⟩;replace E := Bx.mk E;revert a;refine xsq<|xsr<|xr 2 rfl<|xne<|xcd 11 rfl (fun _ dcc1=>?_) fun _ dcc1=>?_
 refine xct rfl<|xsk<|xet<|xsq<|xbl<|xsr<|xr 2 rfl<|xy rfl (vn 9 1 rfl)<|xr 2 rfl<|xcd 18 rfl (fun _ dcc2=>?_) fun _ dcc2=>?_;refine xr 6 rfl<|xne<|xct rfl<|xsr<|xr 2 rfl<|xne<|xre<|xbr<|xtr<|xtr<|xbr<|xtr<|xb1 results114 rfl ?_;exact .inr ⟨i, by omega, hF.out (by omega), rfl, E.o.bel⟩;obtain ⟨g4, rfl, _, _, _, _⟩ := E.o.rowOpen 0 rfl (by omega);refine xr 2 rfl<|xy rfl (vx 9 i 1 rfl)<|xy rfl (fun a J=>ylo (v := .string (((ns.take t.ai.toNat).map Xh).getD i ByteArray.empty)) rfl (J.ev rfl) (E.o.elem1 Zf 0 rfl (Zi (xs := ((ns.take t.ai.toNat).map Xh)) (j := i) (d := ByteArray.empty) (by omega)) rfl))<|xy rfl (fun a J=>Y7 rfl (J.ev rfl) (J.ev rfl))<|xr 1 rfl<|xne<|xcs 24 rfl (fun cc3=>?_) fun cc3=>?_;have hem : ns.getD i none = none := by have h9 := Qg (show ((((ns.take t.ai.toNat).map Xh).getD i ByteArray.empty).toList == ByteArray.empty.toList) = true from (by simpa using cc3)); rw [ZeB (by omega) (by omega)] at h9; exact Vr (fun n hn => hF.ok n (Yo hn).1) h9
 refine xct rfl<|xsr<|xr 2 rfl<|xne<|xre<|xbr<|xtr<|xtr<|xbr<|xtr<|xb1 results114 rfl ?_;exact .inr ⟨i, by omega, hem, rfl, E.o.bel⟩;refine xcf rfl<|xsk<|xeb<|xet<|xrl<|xr 1 rfl<|xy rfl (vad rfl)<|xr 1 rfl<|xne ?_;intro a J;exact ⟨i + 1, ⟨(by omega), J.less _ ⟨rfl, rfl, rfl, rfl, trivial⟩, E.o⟩, (by omega)⟩;refine xcf rfl<|xex<|xtx<|xtx<|xbh<|xet<|xsr<|xr 1 rfl<|xne<|xre<|xb1 results114 rfl ?_;exact .inl ⟨rfl, E.o.bel⟩
theorem ZiZ (q : SQ) (t : Ze) {ns : List (Option Zb)} {R : List PtrD} (hF : FS q.d t ns R) (bt : Nat) (w0 : World) (hR : Rd Zu 1 w0 q.a0 q.d.ac.length q.d.ac) : Calls prog 157 #[q.u, tV t, .int .i64 (bt : Int)] w0 fun e w' => ∃ m : Nat, e = .returned (.int .i64 (m : Int)) ∧ (m : Int) ≤ t.ai ∧ (∀ j, m ≤ j → j ≠ bt → ns.getD j none = none) ∧ Below w0.heap.size w0 w' := by
 have hln := hF.len; have hmm := hF.tv.many; have hll : ((ns.take t.ai.toNat).map Xh).length = t.ai.toNat := by rw [length_map, length_take]; omega
 have HR := Bx.mk hR; clear hR;have E := Bx.mk (St.start w0);refine ent func157 ntmps157 ?_;refine xsr ?_;refine ybx E ?_;clear E;intro w1 b1 E;refine ybx E ?_;clear E;intro w2 b2 E;refine xr 1 rfl<|xne<|xsr<|xr 1 rfl<|xne<|xsr<|Xw 1 8 E rfl rfl<|Xw 0 7 E rfl rfl ?_;refine yc (ZeC q t hF _ (HR.out.below E.o.bel)) func70 ?_;rintro _ w3 ⟨ao3, cp3, rfl, hs⟩;refine ⟨_, rfl, ?_⟩;replace E := E.ad hs;clear hs;refine xr 1 rfl<|xne<|xsq<|xsr<|xr 1 rfl<|xne<|xbl ?_;intro a J;refine Zt (ι := Nat) (fun i a w => ∃ (m : Nat), ((i : Int) ≤ t.ai ∧ m ≤ i ∧ ∀ j, m ≤ j → j < i → j ≠ bt → ns.getD j none = none) ∧ Fr 32 a [(2, .int .i64 (bt : Int)), (3, .pointer (some ⟨b1, 0, none⟩)), (4, .pointer (some ⟨b2, 0, none⟩)), (8, .slice ao3 (((ns.take t.ai.toNat).map Xh).length) cp3), (7, .int .i64 (m : Int)), (9, .int .i64 (i : Int))] ∧ St w0 ([Zg Zu 1 9 (.slice ao3 (((ns.take t.ai.toNat).map Xh).length) cp3) ((ns.take t.ai.toNat).map Xh), boxA b2 7 26 (tV t), boxA b1 8 44 (q.u)]) w) (fun i => t.ai.toNat - i) 0 ⟨0, ⟨by omega, Nat.le_refl _, fun j _ hj => absurd hj (Nat.not_lt_zero _)⟩, J.less _ ⟨rfl, rfl, rfl, rfl, rfl, rfl, trivial⟩, E.o⟩ ?_;clear J E; clear a;rintro i a w4 ⟨m, ⟨hi, hmi, hal⟩, J, E⟩;replace E := Bx.mk E;revert a;refine xsq<|xsr<|xr 1 rfl<|Xf 6 rfl<|Xl 1 E rfl rfl<|xr 1 rfl<|xne<|xcd 16 rfl (fun _ dcc1=>?_) fun _ dcc1=>?_
 obtain ⟨g4, rfl, _, _, _, _⟩ := E.o.rowOpen 0 rfl (by omega);refine xct rfl<|xsk<|xet<|xsq<|xbl<|xsr<|xr 4 rfl<|xcn 22 rfl (fun _ dcc2=>?_) fun _ dcc2=>?_;refine xr 2 rfl<|xy rfl (vx 9 i 1 rfl)<|xy rfl (fun a J=>ylo (v := .string (((ns.take t.ai.toNat).map Xh).getD i ByteArray.empty)) rfl (J.ev rfl) (E.o.elem1 Zf 0 rfl (Zi (xs := ((ns.take t.ai.toNat).map Xh)) (j := i) (d := ByteArray.empty) (by omega)) rfl))<|xy rfl (fun a J=>Xk rfl (J.ev rfl) (J.ev rfl))<|xr 1 rfl<|xne<|xcs 28 rfl (fun cc3=>?_) fun cc3=>?_;refine xct rfl<|xrl<|xr 1 rfl<|xy rfl (fun a J=>Yc (r := ((i + 1 : Nat) : Int)) rfl (J.ev rfl) (J.ev rfl) ((Yi (by omega)).trans (by omega)))<|xr 1 rfl<|xni<|xeb<|xet<|xrl<|xr 1 rfl<|xy rfl (vad rfl)<|xr 1 rfl<|xne ?_;intro a J;exact ⟨i + 1, ⟨(i + 1), ⟨by omega, Nat.le_refl _, fun j h1 h2 => by omega⟩, J.less _ ⟨rfl, rfl, rfl, rfl, rfl, rfl, trivial⟩, E.o⟩, (by omega)⟩;have hem : ns.getD i none = none := by have h9 := Qg (show ((((ns.take t.ai.toNat).map Xh).getD i ByteArray.empty).toList == ByteArray.empty.toList) = true from (by simpa using cc3)); rw [ZeB (by omega) (by omega)] at h9; exact Vr (fun n hn => hF.ok n (Yo hn).1) h9
 refine xcf rfl<|xsk<|xeb<|xet<|xrl<|xr 1 rfl<|xy rfl (vad rfl)<|xr 1 rfl<|xne ?_;have hst : ∀ j, m ≤ j → j < i + 1 → j ≠ bt → ns.getD j none = none := fun j h1 h2 h3 => (Nat.lt_or_ge j i).elim (fun h => hal j h1 h h3) (fun h => by obtain rfl : j = i := (by omega); exact hem)
 intro a J;exact ⟨i + 1, ⟨m, ⟨by omega, by omega, hst⟩, J.less _ ⟨rfl, rfl, rfl, rfl, rfl, rfl, trivial⟩, E.o⟩, (by omega)⟩;refine xr 6 rfl<|xne<|xcf rfl<|xsk<|xeb<|xet<|xrl<|xr 1 rfl<|xy rfl (vad rfl)<|xr 1 rfl<|xne ?_;have hst : ∀ j, m ≤ j → j < i + 1 → j ≠ bt → ns.getD j none = none := fun j h1 h2 h3 => (Nat.lt_or_ge j i).elim (fun h => hal j h1 h h3) (fun h => by obtain rfl : j = i := (by omega); omega)
 intro a J;exact ⟨i + 1, ⟨m, ⟨by omega, by omega, hst⟩, J.less _ ⟨rfl, rfl, rfl, rfl, rfl, rfl, trivial⟩, E.o⟩, (by omega)⟩;refine xcf rfl<|xex<|xtx<|xtx<|xbh<|xet<|xsr<|xr 2 rfl<|xne<|xre<|xb1 results157 rfl ?_;exact ⟨m, rfl, by omega, fun j h1 h3 => (Nat.lt_or_ge j i).elim (fun h => hal j h1 h h3) (fun h => hF.out (by omega)), E.o.bel⟩
theorem ZnQ {P : Program} {w : World} {o : Oper} {a : Act} {t t' : TypeId} {x y : Operand} (ho : o.op = .binOp .gtr t x y t') {m n : ByteArray} (hx : a.eval x = .string m) (hy : a.eval y = .string n) : Yl P w o a (.bool (!Op.bytesLess m.toList n.toList && !m.toList == n.toList)) := by simp [Yl, execOp, ho, hx, hy, eqGuard, binOp, Op.stringOp]
def EG (es : List Zc) : Prop := ∀ x ∈ es, YE x.aD = true ∧ 1 ≤ x.aG ∧ x.aG ≤ 15
theorem EG.of {es : List Zc} (h : YP es = true) : EG es := fun x hx => Xe h hx
theorem EG.app {a b : List Zc} (h : EG a) (k : EG b) : EG (a ++ b) := fun x hx => (mem_append.1 hx).elim (h x) (k x)
theorem EG.one {e : Zc} (h : YE e.aD = true ∧ 1 ≤ e.aG ∧ e.aG ≤ 15) : EG [e] := fun x hx => by rw [mem_singleton.1 hx]; exact h
theorem EG.get {es : List Zc} (h : EG es) {k : Nat} (hk : k < es.length) : EG [es.getD k Zc.zero] := EG.one (h _ (UX hk))
theorem EG.nil : EG [] := fun x hx => nomatch hx
theorem ZkT (ao : Option Addr) (cp : Nat) (es : List Zc) (w0 : World) (hok : EG es) (h12 : es.length ≤ 1000) (hr : Rd Zc.cells 2 w0 ao es.length es) : Calls prog 153 #[.slice ao es.length cp] w0 fun e w' => e = .returned (.string (QC es)) ∧ (QC es).size ≤ 15 * es.length ∧ Below w0.heap.size w0 w' := by
 obtain ⟨g, o, r0⟩ := hr.opn; have RE := Bx.mk r0; clear r0 hr;have E := Bx.mk (St.start w0);refine ent func153 ntmps153 ?_;refine xsr<|xr 1 rfl<|xne<|xsr<|xr 1 rfl<|xne<|xsq<|xsr<|xr 1 rfl<|xne<|xbl ?_;intro a J;refine Zt (ι := Nat) (fun k a w => ∃ (tx : ByteArray), (k ≤ es.length ∧ tx = QC (es.take k) ∧ tx.size ≤ 15 * k) ∧ Fr 28 a [(0, .slice ao es.length cp), (3, .string tx), (4, .int .i64 (k : Int))] ∧ St w0 ([]) w) (fun k => es.length - k) 0 ⟨⟨#[]⟩, ⟨Nat.zero_le _, rfl, Nat.le_refl _⟩, J.ls _, E.o⟩ ?_;clear J E; clear a;rintro k a w1 ⟨tx, ⟨hk, hq, hz⟩, J, E⟩;replace E := Bx.mk E;revert a;refine xsq<|xsr<|xr 2 rfl<|xy rfl (vn 153 2 rfl)<|xr 1 rfl<|xne<|xcd 8 rfl (fun _ dcc1=>?_) fun _ dcc1=>?_
 refine xct rfl<|xsk<|xet<|xsq<|xbl ?_;have hen := hok _ (UX (show k < es.length by omega)); have hnz := ZcA hen.1; have hdz : (Zy (es.getD k Zc.zero).aG.toNat).size ≤ 9 := JU (by omega);intro a J;refine Yf (by kernel_rfl) (by kernel_rfl) E.o ?_;revert a;refine xqr 3 rfl<|xq rfl (fun E=>vxr 153 k 2 rfl (RE.out.ao k (by omega)))<|Qf 0 rfl<|xq rfl (fun E a J=>ylo (v := .string ((es.getD k Zc.zero).aD)) rfl (J.ev rfl) (RE.out.elem E (Zi (xs := es) (j := k) (d := Zc.zero) (by omega)) 0 _ rfl))<|xq rfl (fun E a J=>ZB rfl (J.ev rfl) (J.ev rfl) (by (try simp only [YK, Zl]); omega))<|xq rfl (fun E a J=>ZB rfl (J.ev rfl) (J.ev rfl) (by (try simp only [YK, Zl]); omega))<|xqr 2 rfl<|xq rfl (fun E=>vxr 153 k 2 rfl (RE.out.ao k (by omega)))<|Qf 1 rfl<|xq rfl (fun E a J=>ylo (v := .int .i64 ((es.getD k Zc.zero).aG)) rfl (J.ev rfl) (RE.out.elem E (Zi (xs := es) (j := k) (d := Zc.zero) (by omega)) 1 _ rfl)) ?_;refine yq (fun _ E => YW ((es.getD k Zc.zero).aG) (by omega) (by omega) _) func31 ?_;refine xq rfl (fun E a J=>ZB rfl (J.ev rfl) (J.ev rfl) (by (try simp only [YK, Zl]); omega))<|xq rfl (fun E a J=>ZB rfl (J.ev rfl) (J.ev rfl) (by (try simp only [YK, Zl]); omega))<|xqr 1 rfl ?_;intro a J;refine wpQuiet_nil ?_; intro w2 E; replace E := Bx.mk E;revert a;refine xeb<|xet<|xrl<|xr 1 rfl<|xy rfl (vad rfl)<|xr 1 rfl<|xne ?_;have hnx : ((((tx ++ (es.getD k Zc.zero).aD) ++ (⟨#[61]⟩ : ByteArray)) ++ Zy (es.getD k Zc.zero).aG.toNat) ++ (⟨#[59]⟩ : ByteArray)) = QC (es.take (k + 1)) := by rw [Zed (by omega), YR (by omega) (by omega), hq]
 have hnz2 : ((((tx ++ (es.getD k Zc.zero).aD) ++ (⟨#[61]⟩ : ByteArray)) ++ Zy (es.getD k Zc.zero).aG.toNat) ++ (⟨#[59]⟩ : ByteArray)).size ≤ 15 * (k + 1) := by simp only [Zl]; have : (⟨#[61]⟩ : ByteArray).size = 1 := rfl; have : (⟨#[59]⟩ : ByteArray).size = 1 := rfl; omega
 intro a J;exact ⟨(k + 1), ⟨((((tx ++ (es.getD k Zc.zero).aD) ++ (⟨#[61]⟩ : ByteArray)) ++ Zy (es.getD k Zc.zero).aG.toNat) ++ (⟨#[59]⟩ : ByteArray)), ⟨by omega, hnx, hnz2⟩, J.less _ ⟨rfl, rfl, rfl, trivial⟩, E.o⟩, (by omega)⟩;refine xcf rfl<|xex<|xtx<|xtx<|xbh<|xet<|xsr<|xr 2 rfl<|xne<|xre<|xb1 results153 rfl ?_;obtain rfl : k = es.length := by omega
 rw [List.take_length] at hq; exact ⟨by rw [hq], by rw [← hq]; exact hz, E.o.bel⟩
theorem JK (ao : Option Addr) (cp : Nat) (es : List Zc) (e : Zc) (w0 : World) (hes : EG es) (he : YE e.aD = true ∧ 1 ≤ e.aG ∧ e.aG ≤ 15) (h12 : es.length ≤ 1000) (hr : Rd Zc.cells 2 w0 ao es.length es) : Calls prog 118 #[.slice ao es.length cp, .agg #[.string e.aD, .int .i64 e.aG]] w0 fun e_ w' => ∃ ao' cp' es', e_ = .returned (.slice ao' es'.length cp') ∧ es'.length = es.length + 1 ∧ EG es' ∧ St w0 [Zg Zc.cells 2 153 (.slice ao' es'.length cp') es'] w' := by
 obtain ⟨g, o, r0⟩ := hr.opn; have RE := Bx.mk r0; clear r0 hr;have E := Bx.mk (St.start w0);refine ent func118 ntmps118 ?_;refine xsr ?_;refine ybx E ?_;clear E;intro w1 b1 E;refine xr 1 rfl<|xne<|xsr ?_;refine yem 153 2 E ?_;clear E;intro w2 b2 E;refine xr 1 rfl<|xne<|xsr<|xr 1 rfl<|xne<|xsq<|xsr<|xr 1 rfl<|xne<|xbl ?_;replace E := Bx.mk (E.o.nilRow Zc.cells 2 153 (some ⟨b2, 0, none⟩));intro a J;refine Zt (ι := Nat) (fun k a w => ∃ (ao2 : Option Addr) (cp2 : Nat) (os : List Zc) (dn : Bool), (k ≤ es.length ∧ EG os ∧ os.length = k + (bif dn then 1 else 0)) ∧ Fr 45 a [(0, .slice ao es.length cp), (3, .pointer (some ⟨b1, 0, none⟩)), (5, .slice ao2 os.length cp2), (6, .bool dn), (7, .int .i64 (k : Int))] ∧ St w0 ([Zg Zc.cells 2 153 (.slice ao2 os.length cp2) os, boxA b1 2 153 (.agg #[.string e.aD, .int .i64 e.aG])]) w) (fun k => es.length - k) 0 ⟨_, _, [], false, ⟨Nat.zero_le _, EG.nil, rfl⟩, J.ls _, E.o⟩ ?_;clear J E; clear a;rintro k a w3 ⟨ao2, cp2, os, dn, ⟨hk, hos, hol⟩, J, E⟩;replace E := Bx.mk E;have hdn1 : (bif dn then 1 else 0) ≤ 1 := by cases dn <;> decide
 revert a;refine xsq<|xsr<|xr 2 rfl<|xy rfl (vn 153 2 rfl)<|xr 1 rfl<|xne<|xcd 12 rfl (fun _ dcc1=>?_) fun _ dcc1=>?_
 refine xct rfl<|xsk<|xet<|xsq<|xbl<|xsq<|xsq ?_;intro a J;refine Yf (by kernel_rfl) (by kernel_rfl) E.o ?_;revert a;refine xqr 3 rfl<|xcs 17 rfl (fun cc2=>?_) fun cc2=>?_
 refine xqr 2 rfl<|xq rfl (fun E=>vxr 153 k 2 rfl (RE.out.ao k (by omega)))<|Qf 0 rfl<|xq rfl (fun E a J=>ylo (v := .string ((es.getD k Zc.zero).aD)) rfl (J.ev rfl) (RE.out.elem E (Zi (xs := es) (j := k) (d := Zc.zero) (by omega)) 0 _ rfl))<|Qf 0 rfl<|Ql 1 rfl rfl<|xq rfl (fun E a J=>ZnQ rfl (J.ev rfl) (J.ev rfl))<|xqr 1 rfl ?_;intro a J;refine wpQuiet_nil ?_; intro w4 E; replace E := Bx.mk E;revert a;refine xet<|xcs 26 rfl (fun cc3=>?_) fun cc3=>?_
 refine xct rfl<|xsr<|xr 1 rfl<|Xw 1 2 E rfl rfl ?_;refine ybs Zc.cells 153 2 [e] E ?_;clear E;intro b3 w5 E;refine yap Zc6 Zc.cells_len E 1 (St.rdN E.o Zc.cells_len 0 rfl) (XB _) ?_;clear E;intro ao4 cp5 w6 E;refine xr 1 rfl<|xne<|xrl<|xr 1 rfl<|xne<|xrl<|xr 3 rfl<|xy rfl (vxr 153 k 2 rfl (RE.out.ao k (by omega)))<|xy rfl (fun a J=>ylr (cs := [.string ((es.getD k Zc.zero).aD), .int .i64 ((es.getD k Zc.zero).aG)]) rfl (J.ev rfl) (RE.out.elem E.o (Zi (xs := es) (j := k) (d := Zc.zero) (by omega)))) ?_;refine ybs Zc.cells 153 2 [(es.getD k Zc.zero)] E ?_;clear E;intro b6 w7 E;refine yap Zc6 Zc.cells_len E 2 (St.rdN E.o Zc.cells_len 0 rfl) (XB _) ?_;clear E;intro ao7 cp8 w8 E;refine xr 1 rfl<|xni<|xeb<|xet<|xrl<|xr 1 rfl<|xy rfl (vad rfl)<|xr 1 rfl<|xne ?_;have hz9 : (os ++ ([e])).length + ([(es.getD k Zc.zero)]).length = ((os ++ ([e])) ++ ([(es.getD k Zc.zero)])).length := by simp only [length_append, length_nil, length_cons]
 intro a J;rw [hz9] at E J;have hdn : dn = false := (by simpa using cc2); rw [hdn] at hol; simp only [cond_true, cond_false] at hol;have hnl : ((os ++ ([e])) ++ ([(es.getD k Zc.zero)])).length = k + 1 + (bif true then 1 else 0) := by simp only [length_append, length_singleton, cond_true, cond_false]; omega
 replace E:=E.pks [3,3];exact ⟨k + 1, ⟨_, _, _, true, ⟨by omega, (hos.app (EG.one he)).app (EG.get hes (by omega)), hnl⟩, J.less _ ⟨rfl, rfl, rfl, rfl, rfl, trivial⟩, (E.o.erS [3,2])⟩, (by omega)⟩;refine xcf rfl<|xsk<|xet<|xrl<|xr 3 rfl<|xy rfl (vxr 153 k 2 rfl (RE.out.ao k (by omega)))<|xy rfl (fun a J=>ylr (cs := [.string ((es.getD k Zc.zero).aD), .int .i64 ((es.getD k Zc.zero).aG)]) rfl (J.ev rfl) (RE.out.elem E.o (Zi (xs := es) (j := k) (d := Zc.zero) (by omega)))) ?_;refine ybs Zc.cells 153 2 [(es.getD k Zc.zero)] E ?_;clear E;intro b10 w9 E;refine yap Zc6 Zc.cells_len E 1 (St.rdN E.o Zc.cells_len 0 rfl) (XB _) ?_;clear E;intro ao11 cp12 w10 E;refine xr 1 rfl<|xni<|xeb<|xet<|xrl<|xr 1 rfl<|xy rfl (vad rfl)<|xr 1 rfl<|xne ?_;have hz13 : os.length + ([(es.getD k Zc.zero)]).length = (os ++ ([(es.getD k Zc.zero)])).length := by simp only [length_append, length_nil, length_cons]
 intro a J;rw [hz13] at E J;have hnl : (os ++ ([(es.getD k Zc.zero)])).length = k + 1 + (bif dn then 1 else 0) := by simp only [length_append, length_singleton]; omega
 replace E:=E.pks [2,2];exact ⟨k + 1, ⟨_, _, _, dn, ⟨by omega, hos.app (EG.get hes (by omega)), hnl⟩, J.less _ ⟨rfl, rfl, rfl, rfl, rfl, trivial⟩, (E.o.erase 2)⟩, (by omega)⟩;refine xqr 9 rfl ?_;intro a J;refine wpQuiet_nil ?_; intro w11 E; replace E := Bx.mk E;revert a;refine xet<|xcf rfl<|xsk<|xet<|xrl<|xr 3 rfl<|xy rfl (vxr 153 k 2 rfl (RE.out.ao k (by omega)))<|xy rfl (fun a J=>ylr (cs := [.string ((es.getD k Zc.zero).aD), .int .i64 ((es.getD k Zc.zero).aG)]) rfl (J.ev rfl) (RE.out.elem E.o (Zi (xs := es) (j := k) (d := Zc.zero) (by omega)))) ?_;refine ybs Zc.cells 153 2 [(es.getD k Zc.zero)] E ?_;clear E;intro b14 w12 E;refine yap Zc6 Zc.cells_len E 1 (St.rdN E.o Zc.cells_len 0 rfl) (XB _) ?_;clear E;intro ao15 cp16 w13 E;refine xr 1 rfl<|xni<|xeb<|xet<|xrl<|xr 1 rfl<|xy rfl (vad rfl)<|xr 1 rfl<|xne ?_;have hz17 : os.length + ([(es.getD k Zc.zero)]).length = (os ++ ([(es.getD k Zc.zero)])).length := by simp only [length_append, length_nil, length_cons]
 intro a J;rw [hz17] at E J;have hnl : (os ++ ([(es.getD k Zc.zero)])).length = k + 1 + (bif dn then 1 else 0) := by simp only [length_append, length_singleton]; omega
 replace E:=E.pks [2,2];exact ⟨k + 1, ⟨_, _, _, dn, ⟨by omega, hos.app (EG.get hes (by omega)), hnl⟩, J.less _ ⟨rfl, rfl, rfl, rfl, rfl, trivial⟩, (E.o.erase 2)⟩, (by omega)⟩;refine xcf rfl<|xex<|xtx<|xtx<|xbh<|xet<|xsq<|xsr<|xr 2 rfl<|xne<|xcs 39 rfl (fun cc4=>?_) fun cc4=>?_;refine xct rfl<|xrl<|xr 1 rfl<|Xw 1 2 E rfl rfl ?_;refine ybs Zc.cells 153 2 [e] E ?_;clear E;intro b18 w14 E;refine yap Zc6 Zc.cells_len E 1 (St.rdN E.o Zc.cells_len 0 rfl) (XB _) ?_;clear E;intro ao19 cp20 w15 E;refine xr 1 rfl<|xne<|xsr<|xr 2 rfl<|xne<|xre<|xb1 results118 rfl ?_;have hdn : dn = false := by simpa using cc4
 rw [hdn] at hol; simp only [cond_true, cond_false] at hol;have hz9 : os.length + ([e]).length = (os ++ ([e])).length := (length_append ..).symm;exact ⟨_, _, os ++ ([e]), by rw [← hz9] <;> rfl, by (try simp only [length_append, length_singleton]); omega, hos.app (EG.one he), by rw [← hz9]; exact (E.o.erS [2,0])⟩;refine xcf rfl<|xsk<|xet<|xsr<|xr 2 rfl<|xne<|xre<|xb1 results118 rfl ?_;have hdn : dn = true := by simpa using cc4
 rw [hdn] at hol; simp only [cond_true, cond_false] at hol;exact ⟨_, _, os, rfl, by (try simp only [length_append, length_singleton]); omega, hos, (E.o.erase 1)⟩
theorem Zi0 (g o cp : Nat) (es : List Zc) (i : Nat) (hi : i < es.length) (hcap : es.length ≤ cp) (h12 : es.length ≤ 1000) (w0 : World) (hr : Rd Zc.cells 2 w0 (some ⟨g, o, none⟩) es.length es) : Calls prog 123 #[.slice (some ⟨g, o, none⟩) es.length cp, .int .i64 (i : Int)] w0 fun e_ w' => ∃ ao' cp', e_ = .returned (.slice ao' (es.take i ++ es.drop (i + 1)).length cp') ∧ St w0 [Zg Zc.cells 2 153 (.slice ao' (es.take i ++ es.drop (i + 1)).length cp') (es.take i ++ es.drop (i + 1))] w' := by
 have htl : (es.take i).length = i := by rw [length_take]; omega
 have hdl : (es.drop (i + 1)).length = es.length - (i + 1) := length_drop ..;have E := Bx.mk (St.start w0);refine ent func123 ntmps123 ?_;refine xsr<|xr 1 rfl<|xne<|xsq ?_;refine hld [] E ?_;clear E;intro w1 E M;refine Hp 1 E rfl<|Hp 2 E rfl<|xhy 3 E.o rfl rfl (fun E a J=>JP (e := 153) (size := 2) (k := i) rfl (J.ev rfl) (J.ev rfl) (by kernel_rfl) (by omega) (by omega))<|Hp 5 E rfl<|Hp 6 E rfl<|xhy 7 E.o rfl rfl (fun E=>vad rfl)<|xhy 8 E.o rfl rfl (fun E a J=>Ur (e := 153) (size := 2) (k := i + 1) rfl (J.ev rfl) (J.ev rfl) (by kernel_rfl) (by omega) (by omega) hcap) ?_;refine Zk 0 ?_;refine yoe 153 2 E M ?_;clear E M;intro w2 b1 E M;refine Zk 4 ?_;intro a J;replace M := Bx.mk (M.o.nilRow Zc.cells 2 153 (some ⟨b1, 0, none⟩));refine Yq rfl rfl J rfl rfl rfl (J.ev rfl) (J.ev rfl) Zc6 Zc.cells_len M.o 0 (xs := []) rfl (ys := es.take i) ((hr.below M.o.bel).take (k := i) (by omega)) (XB _) (by unfold maxLen; (try simp only [length_append, length_cons, length_nil, nil_append, length_map]); omega) (by (try simp only [length_append, length_cons, length_nil, nil_append, length_map]); omega) ?_; clear J E M a; intro ao3 cp4 w4 a J M; replace M := Bx.mk M;replace M:=M.nm;have E:=M.ers [0];refine ⟨E.o, ?_⟩;revert a;refine Zk 9 ?_;intro a J;refine Yq rfl rfl J rfl rfl rfl (J.ev rfl) (J.ev rfl) Zc6 Zc.cells_len M.o 0 (xs := ([]) ++ (es.take i)) rfl (ys := es.drop (i + 1)) (Zgp (k := i + 1) (hr.below M.o.bel) (by omega) hcap) (XB _) (by unfold maxLen; (try simp only [length_append, length_cons, length_nil, nil_append, length_map]); omega) (by (try simp only [length_append, length_cons, length_nil, nil_append, length_map]); omega) ?_; clear J E M a; intro ao5 cp6 w6 a J M; replace M := Bx.mk M;replace M:=M.nm;have E:=M.ers [0];refine ⟨E.o, ?_⟩;revert a;refine Hp 10 E rfl ?_;refine hdn ?_;replace E := M; clear M;refine xet<|xre<|xb1 results123 rfl ?_;have hz9 : ((([] : List Zc)) ++ (es.take i)).length + (es.drop (i + 1)).length = (es.take i ++ es.drop (i + 1)).length := by simp only [length_append, length_nil, length_take, length_drop]; omega
 exact ⟨_, _, by rw [← hz9] <;> rfl, by rw [← hz9]; exact E.o⟩
theorem Uv (ao : Option Addr) (cp : Nat) (es : List Zc) (i : Nat) (hi : i < es.length) (hcap : es.length ≤ cp) (h12 : es.length ≤ 1000) (w0 : World) (hr : Rd Zc.cells 2 w0 ao es.length es) : Calls prog 123 #[.slice ao es.length cp, .int .i64 (i : Int)] w0 fun e_ w' => ∃ ao' cp', e_ = .returned (.slice ao' (es.take i ++ es.drop (i + 1)).length cp') ∧ St w0 [Zg Zc.cells 2 153 (.slice ao' (es.take i ++ es.drop (i + 1)).length cp') (es.take i ++ es.drop (i + 1))] w' := by
 obtain ⟨b, o, x, hx, rfl, _, _⟩ := hr.at_ i hi;exact Zi0 b o cp es i hi hcap h12 w0 hr
theorem EG.less {es : List Zc} (h : EG es) (i : Nat) : EG (es.take i ++ es.drop (i + 1)) := fun x hx => (mem_append.1 hx).elim (fun k => h x (List.mem_of_mem_take k)) (fun k => h x (List.mem_of_mem_drop k))
theorem FS.any_ {st : Za} {t : Ze} {ns : List (Option Zb)} {R : List PtrD} (h : FS st t ns R) {k : Nat} (hk : k < 16) {n : Zb} (e : (nodeP st t k).getD Zb.zero = n) : TV st n.ah ∧ FH st t ns k (n.ah.all st ++ R) := by
 have hl := h.len;rw [h.node] at e
 cases hn : ns.getD k none with
 | some m =>
  rw [hn] at e;obtain rfl : m = n := e;have h1 := h.hole (Yo hn).2;rw [Uu] at h1;exact ⟨h.nv m (Yo hn).1, h1⟩
 | none =>
  rw [hn] at e;obtain rfl : Zb.zero = n := e;refine ⟨ZjP h.inv.ok, ?_⟩;have h1 := h.hole (id := k) (o := none) (by rw [getD_eq_getElem?_getD, getElem?_eq_getElem (by omega)] at hn; rw [getElem?_eq_getElem (by omega)]; exact congrArg some hn);rw [Vq, nil_append] at h1;rw [ZhT, nil_append]; exact h1
theorem FH.gone2 {st : Za} {t y : Ze} {ns : List (Option Zb)} {R : List PtrD} {k : Nat} (h1 : FH st t ns k (y.all st ++ R)) (hok : ∀ p ∈ y.all st, p.ok = true) : FH (Qp (y.all st) st) t ns k R := by
 obtain ⟨f1, f2⟩ := Ut h1.worked hok;exact h1.keep f1 (f2.rows.mono fun q hq => by
  rcases mem_append.1 hq with hq | hq
  ·exact mem_append_left _ hq
  ·exact mem_append_right _ (mem_append_left _ hq))
theorem ZmO (q : SQ) (t : Ze) (hF : FB q.d t) {k : Nat} (hk : k < 16) {n : Zb} (hn : (nodeP q.d t k).getD Zb.zero = n) {w0 : World} (hR : Rd Zu 1 w0 q.a0 q.d.ac.length q.d.ac) : Calls prog 156 #[.agg #[.slice q.a0 q.d.ac.length q.c0, .slice q.a1 q.d.aa.ag.length q.c1, .slice q.a2 q.d.aa.au.length q.c2, .int .i64 q.d.av, .slice q.a4 q.d.ak.length q.c4, .int .i64 q.d.az, .slice q.a6 q.d.ar.length q.c6, .bool q.d.aA], .agg #[.int .i64 t.af.aC, .int .i64 t.af.al, .int .i64 t.af.am, .int .i64 t.af.aB, .int .i64 t.af.aq, .int .i64 t.aw, .int .i64 t.ai], .int .i64 (k : Int)] w0 fun e w' => e = .returned (.tuple #[.agg #[.int .i64 n.aj, .int .i64 n.ax, .int .i64 n.am, .int .i64 n.ah.af.aC, .int .i64 n.ah.af.al, .int .i64 n.ah.af.am, .int .i64 n.ah.af.aB, .int .i64 n.ah.af.aq, .int .i64 n.ah.aw, .int .i64 n.ah.ai], .bool (nodeP q.d t k).isSome]) ∧ Below w0.heap.size w0 w' := by
 subst hn;exact ZfT q t hF k hk w0 hR
theorem Zi1 {ns : List (Option Zb)} {k j : Nat} : (ns.set k none).getD j none = if j = k then none else ns.getD j none := by
 rw [getD_eq_getElem?_getD, getD_eq_getElem?_getD, List.getElem?_set]
 by_cases h : k = j
 ·subst h; rw [if_pos rfl, if_pos rfl]; split <;> rfl
 ·rw [if_neg h, if_neg fun e => h e.symm]
theorem ZeD (w0 w : World) (q0 : SQ) (t : Ze) {ns : List (Option Zb)} {R : List PtrD} (hF : FS q0.d t ns R) (k : Nat) (hk16 : k < 16) {n : Zb} (hnP : (nodeP q0.d t k).getD Zb.zero = n) (F : List Asr) (hS : St w0 (q0.asr :: F) w) : Calls prog 125 #[q0.u, tV t, .int .i64 (k : Int)] w fun e w' => ∃ (q' : SQ) (t' : Ze) (b : Bool), e = .returned (.tuple #[q'.u, tV t', .bool b]) ∧ (b = true → FS q'.d t' (ns.set k none) R) ∧ (b = false → FB q'.d t') ∧ TK q0.d q'.d ∧ St w0 (q'.asr :: F) w' := by
 have hFB := hF.fb; have hrow0 := Xm hF.inv.ok; have hmm := hF.tv.many;obtain ⟨hnv, hH0⟩ := hF.any_ hk16 hnP; have h21 := hnv.all21; have hao : ∀ p ∈ (n.ah.all q0.d), p.ok = true := fun p hp => (UR hnv.wf p hp).1
 have E := Bx.mk hS; clear hS;refine ent func125 ntmps125 ?_;refine xsr ?_;refine ybx E ?_;clear E;intro w1 b1 E;refine ybx E ?_;clear E;intro w2 b2 E;refine yal z8 E ?_;clear E;intro w3 b3 E;refine yal z7 E ?_;clear E;intro w4 b4 E;refine xr 1 rfl<|xne<|xsr<|Xw 3 8 E rfl rfl<|Xw 2 7 E rfl rfl<|xr 1 rfl ?_;refine ycB (ZmO q0 t hFB hk16 hnP (E.o.sqRd 4 rfl)) func156 E ?_;clear E;intro w5 E;refine xr 3 rfl ?_;refine yal z10 E ?_;clear E;intro w6 b5 E;refine yst E 0 ?_;clear E;intro w7 E;replace E:=E.nm;refine xr 1 rfl<|xne<|xsr<|Xw 4 8 E rfl rfl<|Xw 3 7 E rfl rfl<|xr 1 rfl ?_;refine yc (ZiZ q0 t hF k _ (E.o.sqRd 5 rfl)) func157 ?_;rintro _ w8 ⟨m, rfl, hm1, hm2, hb⟩;refine ⟨_, rfl, ?_⟩; replace E := Bx.mk (E.o.later hb);clear hb;refine xr 1 rfl<|xne<|xsr<|Xw 4 8 E rfl rfl<|Xf 3 rfl<|Xw 0 7 E rfl rfl ?_;refine yc (Zky q0.a0 q0.c0 q0.a1 q0.c1 q0.a2 q0.c2 q0.a4 q0.c4 q0.a6 q0.c6 q0.d n.ah _ (E.o.sqRd 5 rfl) hrow0 hnv.wf) func158 ?_;rintro _ w9 ⟨ao6, cp6, rfl, hs⟩;refine ⟨_, rfl, ?_⟩;replace E := E.ad hs;clear hs;refine xr 1 rfl<|xne<|xsq<|xsr<|xr 1 rfl<|xne<|xbl ?_;replace E:=E.pks [5,6];intro a J;refine Zt (ι := Nat) (fun i a w => ∃ (q2 : SQ), (i ≤ (n.ah.all q0.d).length ∧ Qp ((n.ah.all q0.d).drop i) q2.d = Qp (n.ah.all q0.d) q0.d ∧ Vo i q2.d) ∧ Fr 61 a [(2, .int .i64 (k : Int)), (3, .pointer (some ⟨b1, 0, none⟩)), (4, .pointer (some ⟨b2, 0, none⟩)), (6, .pointer (some ⟨b3, 0, none⟩)), (7, .pointer (some ⟨b4, 0, none⟩)), (11, .int .i64 (m : Int)), (12, .slice ao6 ((n.ah.all q0.d).length) cp6), (13, .int .i64 (i : Int))] ∧ St w0 (SQ.asr q2 :: boxA b1 8 44 (q2.u) :: Zg PtrD.cells 5 24 (.slice ao6 ((n.ah.all q0.d).length) cp6) (n.ah.all q0.d) :: boxA b5 10 28 (nV n) :: boxA b4 7 26 (az7) :: boxA b3 8 44 (az8) :: boxA b2 7 26 (tV t) :: F) w) (fun i => (n.ah.all q0.d).length - i) 0 ⟨q0, ⟨Nat.zero_le _, by rw [drop_zero], Jz hF.inv.ok⟩, J.less _ ⟨rfl, rfl, rfl, rfl, rfl, rfl, rfl, rfl, trivial⟩, E.o⟩ ?_;clear J E; clear a;rintro i a w10 ⟨q2, ⟨hi, hfr, hW⟩, J, E⟩;replace E := Bx.mk E;revert a;refine xsq<|xsr<|xr 2 rfl<|xy rfl (vn 24 5 rfl)<|xr 1 rfl<|xne<|xcd 33 rfl (fun _ dcc1=>?_) fun _ dcc1=>?_
 refine xct rfl<|xsk<|xet<|xsq<|xbl ?_;obtain ⟨g7, rfl, _, _, _, _⟩ := E.o.rowOpen 2 rfl (by omega);refine hld [1,0] E ?_;clear E;intro w11 E M;refine Hp 1 E rfl<|Hp 2 E rfl<|xhy 3 E.o rfl rfl (fun E=>vx 24 i 5 rfl)<|xhy 4 E.o rfl rfl (fun E a J=>ylr (cs := pL ((n.ah.all q0.d).getD i PtrD.zero)) rfl (J.ev rfl) (E.elem PtrD.cells_len 0 rfl (Zi (xs := (n.ah.all q0.d)) (j := i) (d := PtrD.zero) (by omega)))) ?_;refine Zk 0 ?_;refine yoy E (fun a J=>ylr (cs := q2.l) rfl (J.ev rfl) ((M.o.box 1 rfl).sub 0 8)) ?_;refine Zk 5 ?_;intro a J;replace M:=M.pks [0];revert a;refine yo (JI w0 _ q2 ((n.ah.all q0.d).getD i PtrD.zero) i _ (hao _ (YN (by omega))) hW (by omega) M.o) func151 ?_;rintro _ w14 ⟨zq3, hq3, rfl, hs1⟩;refine ⟨_, rfl, ?_⟩; replace M := Bx.mk hs1;clear hs1;intro a J;replace M:=M.nm;clear E;have E:=M.ers [1,0];refine ⟨E.o, ?_⟩;revert a;refine Zk 6 ?_;refine yos 1 [1,0] M ?_;clear E M;intro w15 E M;refine hdn ?_;replace E := M; clear M;refine xeb<|xet<|xrl<|xr 1 rfl<|xy rfl (vad rfl)<|xr 1 rfl<|xne ?_;have hst := Zcd (s := q2.d) (show i < (n.ah.all q0.d).length by omega); rw [← hq3] at hst;intro a J;exact ⟨i + 1, ⟨_, ⟨by omega, hst.symm.trans hfr, hq3 ▸ hW.free (hao _ (YN (by omega)))⟩, J.less _ ⟨rfl, rfl, rfl, rfl, rfl, rfl, rfl, rfl, trivial⟩, E.o⟩, (by omega)⟩;refine xcf rfl<|xex<|xtx<|xtx<|xbh<|xet<|xsq ?_;have hq2 : q2.d = Qp (n.ah.all q0.d) q0.d := by rw [← hfr, List.drop_of_length_le (by omega)]; rfl
 have hH : FH q2.d t ns k R := by rw [hq2]; exact hH0.gone2 hao
 have htk2 : TK q0.d q2.d := by rw [hq2]; exact (Ut hH0.worked hao).2.tk
 have hFB2 : FB q2.d t := ⟨hH.inv.ok, hH.tv⟩; have hX := hFB2.treeX;refine xrl<|Xw 1 8 E rfl rfl<|Xw 6 7 E rfl rfl<|xr 1 rfl ?_;replace E:=E.pks [0];refine yc (Zab w0 _ q2 t hX k hk16 ByteArray.empty (Nat.zero_le _) _ hH.inv.ok E.o) func112 ?_;rintro _ w16 ⟨zq1, zt1, hr1, hq1, -, -, rfl, hs1⟩;refine ⟨_, rfl, ?_⟩; replace E := Bx.mk hs1;clear hs1;refine xr 4 rfl ?_;refine yst E 1 ?_;clear E;intro w17 E;replace E:=E.nm;refine yst E 6 ?_;clear E;intro w18 E;replace E:=E.nm;refine xr 1 rfl<|xne<|xsq<|xsq ?_;have hcl := hH.clear hk16 hF.len; rw [← hr1, ← hq1] at hcl;have htk3 : TK q0.d zq1.d := htk2.trans (by rw [hq1, hr1]; exact ZiX hH.inv hH.tv hk16 (Nat.zero_le _));refine xrl<|xr 2 rfl<|xne<|xcs 51 rfl (fun cc2=>?_) fun cc2=>?_;have hok1 : zt1.ok = false := by simpa using cc2
 refine xct rfl<|xsq ?_;refine hld [5,4] E ?_;clear E;intro w19 E M;refine Hw 0 1 8 E rfl rfl<|Hw 1 4 7 E rfl rfl ?_;refine Zk 2 ?_;refine yos 5 [5,4] M ?_;clear E M;intro w20 E M;refine Zk 3 ?_;refine yos 4 [5,4] M ?_;clear E M;intro w21 E M;refine Hp 4 E rfl ?_;refine hdn ?_;replace E := M; clear M;refine xet<|xre<|xtr ?_;intro a J;refine Zx J results125 (J.resBox rfl (E.o.box 5 rfl) (by kernel_rfl)) (J.resBox rfl (E.o.box 4 rfl) (by kernel_rfl)) (J.res rfl) ?_;replace E:=E.pks [0];exact ⟨zq1, zt1.t, false, rfl, fun h => (nomatch h), fun _ => hcl.2 hok1, htk3, (E.o.erS [6,5,4,3,2,1])⟩;have hok1 : zt1.ok = true := by simpa using cc2
 obtain ⟨hF2, hmany2⟩ := hcl.1 hok1;refine xcf rfl<|xsk<|xet<|xsr<|Xw 1 8 E rfl rfl<|Xw 6 7 E rfl rfl<|xr 1 rfl ?_;replace E:=E.pks [0];refine yc (Zer w0 _ zq1 zt1.t hF2.fs_x m (by omega) _ hF2.inv.ok E.o) func159 ?_;rintro _ w22 ⟨zq4, zt4, hr4, hq4, -, -, rfl, hs1⟩;refine ⟨_, rfl, ?_⟩; replace E := Bx.mk hs1;clear hs1;refine xr 3 rfl ?_;refine yst E 5 ?_;clear E;intro w23 E;replace E:=E.nm;refine yst E 4 ?_;clear E;intro w24 E;replace E:=E.nm;refine xr 1 rfl<|xne<|xre ?_;intro a J;refine Zx J results125 (J.resBox rfl (E.o.box 5 rfl) (by kernel_rfl)) (J.resBox rfl (E.o.box 4 rfl) (by kernel_rfl)) (J.res rfl) ?_;replace E:=E.pks [0];have hle : (m : Int) ≤ zt1.t.ai := by omega
 have hc := hF2.cut (many := m) hle (fun j hj => by rw [Zi1]; split; (· rfl); (· exact hm2 j hj (by assumption)));have htk4 : TK zq1.d zq4.d := by rw [hq4, hr4]; exact ZoL hF2.inv hF2.tv hle
 rw [← hr4, ← hq4] at hc;exact ⟨zq4, zt4.t, zt4.ok, rfl, fun h => (hc.1 h).1, hc.2, htk3.trans htk4, (E.o.erS [6,5,4,3,2,1])⟩
noncomputable def Ya (st : Za) (t : Ze) (k : Nat) : List Zc := (entF st ((nodeP st t k).getD Zb.zero)).getD []
theorem ZgE {st : Za} {n : Zb} {es : List Zc} (h : entF st n = some es) : YP es = true ∧ n.ok = true ∧ n.aj = 2 := by
 unfold entF at h
 cases hc : (n.ok && (n.aj == 2)) with
 | false => rw [hc] at h; cases h
 | true =>
  rw [hc] at h;rw [Bool.and_eq_true] at hc;exact ⟨ZjC h, hc.1, eq_of_beq hc.2⟩
theorem XG {st : Za} {t : Ze} {k : Nat} : YP (Ya st t k) = true := by
 unfold Ya
 cases h : entF st ((nodeP st t k).getD Zb.zero) with
 | none => exact Q9 (fun i hi => absurd hi (Nat.not_lt_zero _)) (Nat.zero_le _)
 | some es => exact (ZgE h).1
theorem Uw (fb : Nat) (q : SQ) (t : Ze) (full : Bool) (hF : FB q.d t) (k : Nat) (hk : k < 16) (w0 : World) (hB : Box w0 fb 16 119 (fV q t full)) (hR : Rd Zu 1 w0 q.a0 q.d.ac.length q.d.ac) : Calls prog 121 #[.pointer (some ⟨fb, 0, none⟩), .int .i64 (k : Int)] w0 fun e w' => e = .returned (nV ((nodeP q.d t k).getD Zb.zero)) ∧ Below w0.heap.size w0 w' := by
 have HB := Bx.mk hB; have HR := Bx.mk hR; clear hB hR;have E := Bx.mk (St.start w0);refine ent func121 ntmps121 ?_;refine xsr ?_;refine yal z10 E ?_;clear E;intro w1 b1 E;refine xne<|xsq ?_;intro a J;refine ZX (R := fun a w => ∃ (b2 : Nat), Fr 21 a [(4, .pointer (some ⟨b1, 0, none⟩)), (5, .pointer (some ⟨b2, 0, none⟩))] ∧ St w0 ([boxA b2 10 28 (nV ((nodeP q.d t k).getD Zb.zero)), boxA b1 10 28 (ZgV)]) w) ?_ ?_;revert a;refine hld [] E ?_;clear E;intro w2 E M;refine Hp 0 E rfl<|Hp 1 E rfl<|Hf 2 0 E rfl<|xhy 3 E.o rfl rfl (fun E a J=>ylr (cs := q.l) rfl (J.ev rfl) ((HB.out.below E.bel (Nat.le_refl _)).sub 0 8))<|Hp 4 E rfl<|Hp 5 E rfl<|Hf 6 8 E rfl<|xhy 7 E.o rfl rfl (fun E a J=>ylr (cs := tL t) rfl (J.ev rfl) ((HB.out.below E.bel (Nat.le_refl _)).sub 8 7))<|Hp 8 E rfl ?_
 repeat' (first | (refine yoB (i := 9) (ZfT q t hF k hk _ (HR.out.below M.o.bel)) func156 ?_;intro w3 hb; replace E := Bx.mk (E.o.later hb); replace M := Bx.mk (M.o.later hb);clear hb; refine onb E.o ?_) | (refine yoa (i := 13) z10 E M ?_;clear E M;intro w4 b2 E M) | (refine YS (i := 14) M ?_;clear E M;intro w5 E M) | refine rdy 10<|Hp 10 E rfl ?_ | refine rdy 11<|Hp 11 E rfl ?_ | refine rdy 12<|Hp 12 E rfl ?_ | refine rdy 15<|Hp 15 E rfl ?_ | refine YX 9 13 ?_ ?_ | refine Z2 9 ?_ | refine Z2 14 ?_ | refine Z2 13 ?_ | (refine gdn ?_;intro a J;exact ZD ⟨b2, J.ls _, M.o.pmA⟩))
 clear J E a; rintro a w2 ⟨b2, J, E⟩; replace E := Bx.mk E;revert a;refine xet<|xsr<|Xw 0 10 E rfl rfl ?_;refine yst E 1 ?_;clear E;intro w3 E;replace E:=E.nm;refine xne<|xre ?_;intro a J;refine ZE J results121 (J.resBox rfl (E.o.box 1 rfl) (by kernel_rfl)) ?_;exact ⟨rfl, E.o.bel⟩
theorem Zi2 {fb : Nat} {q : SQ} {t : Ze} {full : Bool} (hF : FB q.d t) {k : Nat} (hk : k < 16) {n : Zb} (hn : nodeP q.d t k = some n) {w0 : World} (hB : Box w0 fb 16 119 (.agg #[.slice q.a0 q.d.ac.length q.c0, .slice q.a1 q.d.aa.ag.length q.c1, .slice q.a2 q.d.aa.au.length q.c2, .int .i64 q.d.av, .slice q.a4 q.d.ak.length q.c4, .int .i64 q.d.az, .slice q.a6 q.d.ar.length q.c6, .bool q.d.aA, .int .i64 t.af.aC, .int .i64 t.af.al, .int .i64 t.af.am, .int .i64 t.af.aB, .int .i64 t.af.aq, .int .i64 t.aw, .int .i64 t.ai, .bool full])) (hR : Rd Zu 1 w0 q.a0 q.d.ac.length q.d.ac) : Calls prog 121 #[.pointer (some ⟨fb, 0, none⟩), .int .i64 (k : Int)] w0 fun e w' => e = .returned (.agg #[.int .i64 n.aj, .int .i64 n.ax, .int .i64 n.am, .int .i64 n.ah.af.aC, .int .i64 n.ah.af.al, .int .i64 n.ah.af.am, .int .i64 n.ah.af.aB, .int .i64 n.ah.af.aq, .int .i64 n.ah.aw, .int .i64 n.ah.ai]) ∧ Below w0.heap.size w0 w' := by
 have h := Uw fb q t full hF k hk w0 hB hR;rw [hn] at h; exact h
theorem Yp (fb : Nat) (q : SQ) (t : Ze) (full : Bool) (hF : FB q.d t) (k : Nat) (hk : k < 16) (w0 : World) (hB : Box w0 fb 16 119 (fV q t full)) (hR : Rd Zu 1 w0 q.a0 q.d.ac.length q.d.ac) : Calls prog 115 #[.pointer (some ⟨fb, 0, none⟩), .int .i64 (k : Int)] w0 fun e w' => ∃ ao cp, e = .returned (.slice ao (Ya q.d t k).length cp) ∧ St w0 [Zg Zc.cells 2 153 (.slice ao (Ya q.d t k).length cp) (Ya q.d t k)] w' := by
 have HB := Bx.mk hB; have HR := Bx.mk hR; clear hB hR;have E := Bx.mk (St.start w0);refine ent func115 ntmps115 ?_;refine xsr<|xr 1 rfl<|xne<|xsq ?_;refine hld [] E ?_;clear E;intro w1 E M;refine Hp 0 E rfl<|Hp 1 E rfl<|Hf 2 0 E rfl<|xhy 3 E.o rfl rfl (fun E a J=>ylr (cs := q.l) rfl (J.ev rfl) ((HB.out.below E.bel (Nat.le_refl _)).sub 0 8))<|Hp 4 E rfl<|Hp 5 E rfl ?_;refine Zk 6 ?_;refine yoB (Uw fb q t full hF k hk _ (HB.out.below M.o.bel (Nat.le_refl _)) (HR.out.below M.o.bel)) func121 ?_;intro w2 hb; replace E := Bx.mk (E.o.later hb); replace M := Bx.mk (M.o.later hb);clear hb; refine onb E.o ?_;refine Zk 7 ?_;refine yo (V8 q.a0 q.c0 q.a1 q.c1 q.a2 q.c2 q.a4 q.c4 q.a6 q.c6 q.d ((nodeP q.d t k).getD Zb.zero) _ (HR.out.below M.o.bel) (Xm hF.ok) hF.h0) func152 ?_;rintro _ w4 (⟨es, hes, aoE, cpE, rfl, hs1⟩ | ⟨hes, ae, rfl, hb⟩);refine ⟨_, rfl, ?_⟩; replace E := Bx.mk (E.o.later hs1.bel); replace M := M.ad hs1;clear hs1;intro a J;replace M:=M.nm; refine ⟨E.o, ?_⟩;revert a;refine Hp 8 E rfl<|Hp 9 E rfl<|Hp 10 E rfl<|Hp 11 E rfl<|Hp 12 E rfl ?_;refine hdn ?_;replace E := M; clear M;refine xet<|xsr<|xr 2 rfl<|xne<|xre<|xb1 results115 rfl ?_;have hE : Ya q.d t k = es := by unfold Ya; rw [hes]; rfl
 exact ⟨_, _, by rw [hE] <;> rfl, by rw [hE]; exact E.o⟩;refine ⟨_, rfl, ?_⟩; replace E := Bx.mk (E.o.later hb); replace M := Bx.mk (M.o.later hb);clear hb; refine onb E.o ?_;refine Hp 8 E rfl<|Hp 9 E rfl<|Hp 10 E rfl<|Hp 11 E rfl<|Hp 12 E rfl ?_;refine hdn ?_;replace E := M; clear M;refine xet<|xsr<|xr 2 rfl<|xne<|xre<|xb1 results115 rfl ?_;have hE : Ya q.d t k = [] := by unfold Ya; rw [hes]; rfl
 exact ⟨ae, 0, by rw [hE] <;> rfl, by rw [hE]; exact (E.o.nilRow Zc.cells 2 153 ae)⟩
theorem Zbp (w0 w : World) (fb : Nat) (q : SQ) (t : Ze) (full : Bool) {l : List PtrD} (hgo : full = false → TreeX q.d t (t.ps q.d) l) (k : Nat) (hk : k < 16) (n : Zb) (hq : q.d.ok = true) (F : List Asr) (hS : St w0 (boxA fb 16 119 (fV q t full) :: q.asr :: F) w) : Calls prog 116 #[.pointer (some ⟨fb, 0, none⟩), .int .i64 (k : Int), nV n] w fun e w' => ∃ (q' : SQ) (t' : Ze) (full' : Bool) (r : UZ), (full = true → q' = q ∧ t' = t ∧ full' = true) ∧ (full = false → r = XL q.d t (t.ps q.d) k (ZY n) ∧ q'.d = r.st ∧ t' = r.t ∧ full' = !r.ok) ∧ e = .returned (.tuple #[]) ∧ St w0 (boxA fb 16 119 (fV q' t' full') :: q'.asr :: F) w' := by
 have E := Bx.mk hS; clear hS;refine ent func116 ntmps116 ?_;refine xsr ?_;refine ybx E ?_;clear E;intro w1 b1 E;refine xne<|xsq<|xsr<|xr 2 rfl<|Xf 15 rfl<|Xl 1 E rfl rfl<|xne<|xcs 12 rfl (fun cc1=>?_) fun cc1=>?_;have hnf : full = true := cc1;refine xct rfl<|xre<|xtr ?_;intro a J;refine Zji J results116  ?_;replace E:=E.pks [2,2];subst hnf; exact ⟨q, t, true, ⟨q.d, t, true⟩, fun _ => ⟨rfl, rfl, rfl⟩, fun h => (nomatch h), rfl, (E.o.erase 2)⟩;have hnf : full = false := cc1;refine xcf rfl<|xsk<|xet<|xsq ?_;intro a J;refine ZX (R := fun a w => ∃ (b2 : Nat) (b3 : Nat) (zt1 : UZ) (zq1 : SQ), zt1 = XL q.d t (t.ps q.d) k (ZY n) ∧ zq1.d = zt1.st ∧ Fr 41 a [(0, .pointer (some ⟨fb, 0, none⟩)), (2, nV n), (9, .pointer (some ⟨fb, 0, none⟩)), (10, .pointer (some ⟨fb, 0, none⟩)), (11, .pointer (some ⟨fb, 0 + 15, none⟩)), (12, .bool false), (6, .pointer (some ⟨b2, 0, none⟩)), (7, .pointer (some ⟨b3, 0, none⟩)), (8, .bool zt1.ok)] ∧ St w0 (boxA b3 7 26 (tV zt1.t) :: boxA b2 8 44 (zq1.u) :: SQ.asr zq1 :: boxA b1 10 28 (nV n) :: boxA fb 16 119 (fV q t full) :: F) w) ?_ ?_;revert a;refine hld [2] E ?_;clear E;intro w2 E M;refine Hp 0 E rfl<|Hp 1 E rfl<|Hf 2 0 E rfl<|Hw 3 1 8 E rfl rfl<|Hp 4 E rfl<|Hp 5 E rfl<|Hf 6 8 E rfl<|Hw 7 1 7 E rfl rfl<|Hp 8 E rfl<|Hw 9 0 10 E rfl rfl ?_
 repeat' (first | (refine yo (i := 10) (ZfP w0 _ q t (hgo hnf) k hk n _ hq (M.lk (SQ.asr q)).out) func84 ?_;rintro _ w4 ⟨zq1, zt1, hr1, hq1, rfl, hs1⟩;refine ⟨_, rfl, ?_⟩; replace M := Bx.mk hs1;clear hs1;replace M:=M.nm;replace E:=E.upd M;refine onb E.o ?_) | (refine yoa (i := 15) z8 E M ?_;clear E M;intro w5 b2 E M) | (refine yoa (i := 16) z7 E M ?_;clear E M;intro w6 b3 E M) | (refine YS (i := 17) M ?_;clear E M;intro w7 E M) | (refine YS (i := 18) M ?_;clear E M;intro w8 E M) | refine rdy 11<|Hp 11 E rfl ?_ | refine rdy 12<|Hp 12 E rfl ?_ | refine rdy 13<|Hp 13 E rfl ?_ | refine rdy 14<|Hp 14 E rfl ?_ | refine rdy 19<|Hp 19 E rfl ?_ | refine VK 10 15 16 ?_ ?_ ?_ | refine YX 10 15 ?_ ?_ | refine Z2 10 ?_ | refine Z2 17 ?_ | refine Z2 18 ?_ | refine Z2 15 ?_ | refine YX 10 16 ?_ ?_ | refine Z2 16 ?_ | refine YX 15 16 ?_ ?_ | (refine gdn ?_;intro a J;exact ZD ⟨b2, b3, zt1, zq1, hr1, hq1, J.ls _, M.o.pmA⟩))
 clear J E a; rintro a w2 ⟨b2, b3, zt1, zq1, hr1, hq1, J, E⟩; replace E := Bx.mk E;revert a;refine xet<|xsr<|xr 1 rfl<|Xw 1 8 E rfl rfl<|xr 1 rfl<|Xf 0 rfl ?_;intro a J;refine ZZ rfl rfl rfl (J.ev rfl) (J.ev rfl) E.o 4 rfl (by kernel_rfl) rfl (by kernel_rfl) (rs := fL zq1 t full) rfl ?_; clear E; intro w3 E; replace E := Bx.mk E;replace E:=E.nm;revert a;refine xne<|xsr<|xr 1 rfl<|Xw 0 7 E rfl rfl<|xr 1 rfl<|Xf 8 rfl ?_;intro a J;refine ZZ rfl rfl rfl (J.ev rfl) (J.ev rfl) E.o 4 rfl (by kernel_rfl) rfl (by kernel_rfl) (rs := fL zq1 zt1.t full) rfl ?_; clear E; intro w4 E; replace E := Bx.mk E;replace E:=E.nm;revert a;refine xne<|xrl<|xr 4 rfl<|Xf 15 rfl ?_;refine ysF 4 E ?_;clear E;intro w5 E;replace E:=E.nm;refine xni ?_;intro a J;refine Zjj J results116 ?_;replace E:=E.pks [2,4];exact ⟨zq1, zt1.t, !zt1.ok, zt1, fun h => by (rw [hnf] at h; cases h), fun _ => ⟨hr1, hq1, rfl, rfl⟩, rfl, (E.o.erS [4,3,2])⟩
section
variable {st s : Za} {t y : Ze} {ns : List (Option Zb)} {R : List PtrD} {k sz : Nat} {n : Zb} {b : Bool}
theorem FG.at_ (h : FG st t ns R) (hn : ns.getD k none = some n) : k < 16 ∧ nodeP st t k = some n ∧ n.ok = true ∧ TV st n.ah ∧ (k : Int) < t.ai := by
 have h1 := (List.getElem?_eq_some_iff.1 (Yo hn).2).1;have h2 := h.fs.len;have hp := (h.fs.node k).trans hn;exact ⟨by omega, hp, h.fs.ok n (Yo hn).1, h.fs.nv n (Yo hn).1, (ZhU hp).2⟩
theorem FG.worked (h : FG st t ns R) (hn : ns.getD k none = some n) : Inv st (n.ah.all st ++ (t.all st ++ (ZF st (ns.set k none) ++ R))) := by
 have h1 := h.fs.hole (Yo hn).2;rw [Uu] at h1;exact h1.worked
theorem FG.wrote (h : FG st t ns R) (hn : ns.getD k none = some n) (h2 : n.aj = 2) (hp1 : b = true → sz ≤ 2048 ∧ Wk st (t.all st ++ (ZF st (ns.set k none) ++ R)) s y ∧ y.ai = (((sz + 127) / 128 : Nat) : Int)) (hp2 : b = false → Js st (t.all st ++ (ZF st (ns.set k none) ++ R)) s) :
  FB s t ∧ TK st s ∧ (b = true → FH s t ns k (y.all s ++ R) ∧ TV s y ∧ (Zb.mk n.aj n.ax (sz : Int) y).ok = true) := by
 have h1 := h.fs.hole (Yo hn).2;rw [Uu] at h1
 cases b with
 | true =>
  obtain ⟨a1, a2, a3⟩ := hp1 rfl;have hw := h1.work2 a2;exact ⟨⟨hw.inv.ok, hw.tv⟩, a2.kp.tk, fun _ => ⟨hw, a2.tv, ZoK (h.at_ hn).2.2.1 h2 a2.tv a3 a1⟩⟩
 | false =>
  have a := hp2 rfl;exact ⟨h1.broke2 a, a.kp.tk, fun e => nomatch e⟩
theorem FG.set (h : FG st t ns R) {s : Za} {t' : Ze} {o : Option Zb} (hs : FS s t' (ns.set k o) R) (ho : k = 0 → ∃ n, o = some n ∧ n.aj = 2) : FG s t' (ns.set k o) R := by
 refine ⟨hs, ?_⟩;obtain ⟨n0, e0, k0⟩ := h.top
 by_cases e : k = 0
 ·obtain ⟨n, e1, e2⟩ := ho e
  subst e;have h16 := h.fs.len;exact ⟨n, by rw [getD_eq_getElem?_getD, List.getElem?_set_self (by omega), e1]; rfl, e2⟩
 ·exact ⟨n0, by rw [getD_eq_getElem?_getD, List.getElem?_set_ne e, ← getD_eq_getElem?_getD]; exact e0, k0⟩
theorem FG.putd (h : FG st t ns R) (hH : FH s t ns k (n.ah.all s ++ R)) (hv : TV s n.ah) (hk : k < 16) (h0 : k = 0 → n.ok = true ∧ n.aj = 2) {r : UZ} (hr : r = XL s t (t.ps s) k (ZY n)) :
  (r.ok = true → FG r.st r.t (ns.set k (if n.ok = true then some n else none)) R) ∧ (r.ok = false → FB r.st r.t) ∧ TK s r.st := by
 obtain ⟨p1, p2⟩ := hH.put hv hk h.fs.len (JJ n) fun e => QU e
 have tk := ZiX (k := k) (text := ZY n) hH.inv hH.tv hk (JJ n);rw [← hr] at p1 p2 tk;exact ⟨fun e => h.set (p1 e).1 fun e0 => ⟨n, if_pos (h0 e0).1, (h0 e0).2⟩, p2, tk⟩
end
theorem ZhV (w0 w : World) (fb : Nat) (q : SQ) (t : Ze) {ns : List (Option Zb)} {R : List PtrD} (hG : FG q.d t ns R) (k : Nat) {n : Zb} (hn : ns.getD k none = some n) (h2 : n.aj = 2) (aoE : Option Addr) (cpE : Nat) (es : List Zc) (hes : EG es) (h12 : es.length ≤ 1000) (F : List Asr) (hS : St w0 (boxA fb 16 119 (fV q t false) :: q.asr :: Zg Zc.cells 2 153 (.slice aoE es.length cpE) es :: F) w) : Calls prog 117 #[.pointer (some ⟨fb, 0, none⟩), .int .i64 (k : Int), .slice aoE es.length cpE] w fun e w' => ∃ (q' : SQ) (t' : Ze) (full' : Bool), (full' = false → ∃ n', n'.aj = 2 ∧ FG q'.d t' (ns.set k (some n')) R) ∧ (full' = true → FB q'.d t') ∧ TK q.d q'.d ∧ e = .returned (.tuple #[]) ∧ St w0 (boxA fb 16 119 (fV q' t' full') :: q'.asr :: Zg Zc.cells 2 153 (.slice aoE es.length cpE) es :: F) w' := by
 obtain ⟨hk16, hnP, hnok, hnv, _⟩ := hG.at_ hn; have hFB := hG.fs.fb;have E := Bx.mk hS; clear hS;refine ent func117 ntmps117 ?_;refine xsq<|xsr<|xr 2 rfl<|Xf 15 rfl<|Xl 0 E rfl rfl<|xne<|xcf rfl<|xsk<|xet<|xsr<|xr 2 rfl ?_;refine ycB (Zi2 hFB hk16 hnP (E.o.box 0 rfl) (E.o.sqRd 1 rfl)) func121 E ?_;clear E;intro w1 E;refine yal z10 E ?_;clear E;intro w2 b1 E;refine yst E 0 ?_;clear E;intro w3 E;replace E:=E.nm;refine xne<|xsr<|xr 1 rfl ?_;refine yc (ZkT _ _ es _ hes h12 (St.rdOf E.o Zc.cells_len 3 rfl)) func153 ?_;rintro _ w4 ⟨rfl, htsz, hb⟩;refine ⟨_, rfl, ?_⟩; replace E := Bx.mk (E.o.later hb);clear hb;refine xr 1 rfl<|xne<|xsq ?_;intro a J;refine ZX (R := fun a w => ∃ (b2 : Nat) (b3 : Nat) (zb1 : Bool) (zy1 : Ze) (zq1 : SQ), (zb1 = true → (QC es).size ≤ 2048 ∧ Wk q.d (t.all q.d ++ (ZF q.d (ns.set k none) ++ R)) zq1.d zy1 ∧ zy1.ai = ((((QC es).size + 127) / 128 : Nat) : Int)) ∧ (zb1 = false → Js q.d (t.all q.d ++ (ZF q.d (ns.set k none) ++ R)) zq1.d) ∧ Fr 50 a [(0, .pointer (some ⟨fb, 0, none⟩)), (1, .int .i64 (k : Int)), (2, .slice aoE es.length cpE), (11, .pointer (some ⟨fb, 0, none⟩)), (12, .pointer (some ⟨fb, 0, none⟩)), (13, .pointer (some ⟨fb, 0 + 15, none⟩)), (14, .bool false), (15, .pointer (some ⟨fb, 0, none⟩)), (16, .int .i64 (k : Int)), (17, nV n), (6, .pointer (some ⟨b1, 0, none⟩)), (18, .slice aoE es.length cpE), (19, .string (QC es)), (7, .string (QC es)), (8, .pointer (some ⟨b2, 0, none⟩)), (9, .pointer (some ⟨b3, 0, none⟩)), (10, .bool zb1)] ∧ St w0 (boxA b3 7 26 (tV zy1) :: boxA b2 8 44 (zq1.u) :: SQ.asr zq1 :: boxA b1 10 28 (nV n) :: boxA fb 16 119 (fV q t false) :: Zg Zc.cells 2 153 (.slice aoE es.length cpE) es :: F) w) ?_ ?_;revert a;refine hld [2] E ?_;clear E;intro w5 E M;refine Hp 0 E rfl<|Hp 1 E rfl<|Hf 2 0 E rfl<|Hw 3 1 8 E rfl rfl<|Hf 4 3 E rfl<|Hw 5 0 7 E rfl rfl<|Hp 6 E rfl ?_
 repeat' (first | (refine yo (i := 7) (ZmM w0 _ q n.ah _ (hG.worked hn) hnv (QC es) (by omega) _ (M.lk (SQ.asr q)).out) func154 ?_;rintro _ w7 ⟨zq1, zy1, zb1, rfl, hp1, hp2, hs1⟩;refine ⟨_, rfl, ?_⟩; replace M := Bx.mk hs1;clear hs1;replace M:=M.nm;replace E:=E.upd M;refine onb E.o ?_) | (refine yoa (i := 12) z8 E M ?_;clear E M;intro w8 b2 E M) | (refine yoa (i := 13) z7 E M ?_;clear E M;intro w9 b3 E M) | (refine YS (i := 14) M ?_;clear E M;intro w10 E M) | (refine YS (i := 15) M ?_;clear E M;intro w11 E M) | refine rdy 8<|Hp 8 E rfl ?_ | refine rdy 9<|Hp 9 E rfl ?_ | refine rdy 10<|Hp 10 E rfl ?_ | refine rdy 11<|Hp 11 E rfl ?_ | refine rdy 16<|Hp 16 E rfl ?_ | refine VK 7 12 13 ?_ ?_ ?_ | refine YX 7 12 ?_ ?_ | refine Z2 7 ?_ | refine Z2 14 ?_ | refine Z2 15 ?_ | refine Z2 12 ?_ | refine YX 7 13 ?_ ?_ | refine Z2 13 ?_ | refine YX 12 13 ?_ ?_ | (refine gdn ?_;intro a J;exact ZD ⟨b2, b3, zb1, zy1, zq1, hp1, hp2, J.ls _, M.o.pmA⟩))
 clear J E a; rintro a w5 ⟨b2, b3, zb1, zy1, zq1, hp1, hp2, J, E⟩; replace E := Bx.mk E;revert a;refine xet<|xsr<|xr 1 rfl<|Xw 1 8 E rfl rfl<|xr 1 rfl<|Xf 0 rfl ?_;intro a J;refine ZZ rfl rfl rfl (J.ev rfl) (J.ev rfl) E.o 4 rfl (by kernel_rfl) rfl (by kernel_rfl) (rs := fL zq1 t false) rfl ?_; clear E; intro w6 E; replace E := Bx.mk E;replace E:=E.nm;revert a;refine xne<|xsr<|xr 4 rfl<|Xf 15 rfl ?_;refine ysF 4 E ?_;clear E;intro w7 E;replace E:=E.nm;refine xne<|xsr<|Xw 0 7 E rfl rfl<|Xf 3 rfl ?_;intro a J;refine ZZ rfl rfl rfl (J.ev rfl) (J.ev rfl) E.o 3 rfl (by kernel_rfl) rfl (by kernel_rfl) (rs := nPL n.aj n.ax n.am zy1) rfl ?_; clear E; intro w8 E; replace E := Bx.mk E;replace E:=E.nm;revert a;refine xne<|xsr<|xr 1 rfl<|xy rfl (fun a J=>ZM rfl (J.ev rfl) (by kernel_rfl))<|Xf 2 rfl ?_;refine ysF 3 E ?_;clear E;intro w9 E;replace E:=E.nm;refine xne<|xrl<|xr 2 rfl<|Xw 3 10 E rfl rfl ?_;obtain ⟨hfb9, htk9, hwr9⟩ := hG.wrote hn h2 hp1 hp2;replace E:=E.pks [2,4];refine yc (Zbp w0 _ fb zq1 t (!zb1) (fun _ => hfb9.treeX) k hk16 (Zb.mk n.aj n.ax ((QC es).size : Int) zy1) hfb9.ok _ E.o) func116 ?_;rintro _ w10 ⟨q9, t9, full9, r9, hA, hB, rfl, hs1⟩;refine ⟨_, rfl, ?_⟩; replace E := Bx.mk hs1;clear hs1;refine xni ?_;intro a J;refine Zjj J results117 ?_;replace E:=E.pks [5,2,2];refine ⟨q9, t9, full9, ?_, ?_, ?_, rfl, (E.o.erS [5,4,3])⟩
 all_goals cases zb1
 intro h; obtain ⟨_, _, e⟩ := hA rfl; rw [e] at h; cases h;obtain ⟨w1, w2, w3⟩ := hwr9 rfl; obtain ⟨e1, e2, e3, e4⟩ := hB rfl; have hd := hG.putd w1 w2 hk16 (fun _ => ⟨w3, h2⟩) e1; rw [w3, if_pos rfl] at hd;intro h; rw [e4] at h; rw [e2, e3]; exact ⟨(Zb.mk n.aj n.ax ((QC es).size : Int) zy1), h2, hd.1 (by simpa using h)⟩;intro _; obtain ⟨e1, e2, _⟩ := hA rfl; rw [e1, e2]; exact hfb9;obtain ⟨w1, w2, w3⟩ := hwr9 rfl; obtain ⟨e1, e2, e3, e4⟩ := hB rfl; have hd := hG.putd w1 w2 hk16 (fun _ => ⟨w3, h2⟩) e1;intro h; rw [e4] at h; rw [e2, e3]; exact hd.2.1 (by simpa using h);obtain ⟨e1, _, _⟩ := hA rfl; rw [e1]; exact htk9;obtain ⟨w1, w2, w3⟩ := hwr9 rfl; obtain ⟨e1, e2, e3, e4⟩ := hB rfl; have hd := hG.putd w1 w2 hk16 (fun _ => ⟨w3, h2⟩) e1; rw [e2]; exact htk9.trans hd.2.2
theorem ZhW (w0 w : World) (fb : Nat) (q : SQ) (t : Ze) (k : Nat) (aoE : Option Addr) (cpE : Nat) (es : List Zc) (F : List Asr) (hS : St w0 (boxA fb 16 119 (fV q t true) :: F) w) : Calls prog 117 #[.pointer (some ⟨fb, 0, none⟩), .int .i64 (k : Int), .slice aoE es.length cpE] w fun e w' => e = .returned (.tuple #[]) ∧ St w0 (boxA fb 16 119 (fV q t true) :: F) w' := by
 have E := Bx.mk hS; clear hS;refine ent func117 ntmps117 ?_;refine xsq<|xsr<|xr 2 rfl<|Xf 15 rfl<|Xl 0 E rfl rfl<|xne<|xct rfl<|xre<|xtr ?_;intro a J;refine Zji J results117  ?_;exact ⟨rfl, E.o⟩
theorem ZoM {enc : ByteArray → List Value} {e : TypeId} {w : World} {f : List Nat} {ao : Option Addr} {n cap : Nat} {xs : List ByteArray} (he : ∀ x, (enc x).length = 1) (h : (Zg enc 1 e (.slice ao n cap) xs).P w f) : Rd enc 1 w ao n xs := by
 obtain ⟨_, B1, hr⟩ := h;obtain ⟨ao2, cap2, e1, r⟩ := hr.rd he;simp only [Value.slice.injEq] at e1;obtain ⟨rfl, rfl, rfl⟩ := e1;exact r
theorem St.holdNil {W w : World} {F : List Asr} {P : World → Prop} (h : St W F w) (hP : ∀ w, P w) : St W (holdsA P :: F) w := by
 obtain ⟨f, h1, h2, h3⟩ := h.sep;exact ⟨h.bel, f, ⟨[], f, rfl, fun w' _ _ => hP w', h1⟩, h2, h3⟩
theorem Zi3 {s : ByteArray} (h : (s.toList == (⟨#[47]⟩ : ByteArray).toList) = false) (hp : ZL s = true) : (Zd s 47).drop 1 = Zr s := by
 cases h2 : (s.data.toList.head? == some 47) with
 | false => rw [JR h h2] at hp; cases hp
 | true => rw [ZcX (eq_of_beq h2), Us h]; rfl
theorem ZhX {s : ByteArray} (hp : ZL s = true) : ∀ x ∈ Zr s, YE x = true := fun x hx => by
 cases h : (s.toList == (⟨#[47]⟩ : ByteArray).toList) with
 | true => rw [Zay h] at hx; cases hx
 | false =>
  cases h2 : (s.data.toList.head? == some 47) with
  | false => rw [JR h h2] at hp; cases hp
  | true =>
   rw [JS h h2] at hp;rw [Us h] at hx;unfold ZdJ at hp;rw [Bool.and_eq_true, List.all_eq_true] at hp;exact hp.2 x hx
def txA (ao : Option Addr) (xs : List ByteArray) : Asr := holdsA fun w => Rd Zu 1 w ao xs.length xs
theorem ZeE (s : ByteArray) (w0 : World) (hp : ZL s = true) (hs : s.size ≤ 4000000000) : Calls prog 129 #[.string s] w0 fun e w' => ∃ ao cp, e = .returned (.slice ao (Zr s).length cp) ∧ (Zr s).length ≤ cp ∧ St w0 [txA ao (Zr s)] w' := by
 have E := Bx.mk (St.start w0);refine ent func129 ntmps129 ?_;refine xsr<|xr 1 rfl<|xne<|xsq<|xsr<|xr 1 rfl<|xy rfl (fun a J=>Y7 rfl (J.ev rfl) (J.ev rfl))<|xne<|xcs 4 rfl (fun cc1=>?_) fun cc1=>?_;refine xct rfl<|xsr ?_;refine yem 9 1 E ?_;clear E;intro w1 b1 E;refine xr 1 rfl<|xne<|xre<|xtr<|xb1 results129 rfl ?_;have hn : Zr s = [] := Zay cc1;exact ⟨(some ⟨b1, 0, none⟩), 0, by rw [hn] <;> rfl, Nat.le_of_eq (by rw [hn]; rfl), by rw [hn]; exact St.holdNil (E.o) fun w => Zak _ _ _ _⟩;refine xcf rfl<|xsk<|xet<|xsr<|xr 1 rfl ?_;refine yc (JD s 47 _ (by omega)) func62 ?_;rintro _ w2 ⟨ao2, cp2, rfl, hs⟩;refine ⟨_, rfl, ?_⟩;replace E := E.ad hs;clear hs;have hpp := Zeg s 47;obtain ⟨g3, rfl, _, _, _, _⟩ := E.o.rowOpen 0 rfl (by omega);have hcap := E.o.capLe 0 rfl;refine xy rfl (fun a J=>Ur (e := 9) (size := 1) (k := 1) rfl (J.ev rfl) (J.ev rfl) (by kernel_rfl) rfl (by omega) hcap)<|xr 1 rfl<|xne<|xre<|xb1 results129 rfl ?_;replace E:=E.pks [0];have hn := Zi3 cc1 hp; have hnl : (Zd s 47).length - 1 = (Zr s).length := by rw [← hn, length_drop]
 exact ⟨_, _, by rw [hnl] <;> rfl, by rw [← hnl]; omega, St.hold (E.o) fun w f h => by rw [← hnl, ← hn]; exact Zgp (ZoM Zf h) (by omega) hcap⟩
def Qo (s : ByteArray) : ByteArray := ((Zr s).getD ((Zr s).length - 1) ByteArray.empty)
theorem XC (s : ByteArray) (w0 : World) (hp : ZL s = true) (hs : s.size ≤ 4000000000) (hne : (Zr s).length ≠ 0) : Calls prog 119 #[.string s] w0 fun e w' => e = .returned (.string (Qo s)) ∧ Below w0.heap.size w0 w' := by
 have hn4 := J8 hp;have E := Bx.mk (St.start w0);refine ent func119 ntmps119 ?_;refine xsr<|xr 1 rfl<|xne<|xsr<|xr 1 rfl ?_;refine yc (ZeE s _ hp hs) func129 ?_;rintro _ w1 ⟨ao1, cp1, rfl, hcp, hs1⟩;refine ⟨_, rfl, ?_⟩;replace E := E.ad hs1;clear hs1;refine xr 1 rfl<|xne<|xsq ?_;have hrd : Rd Zu 1 _ ao1 (Zr s).length (Zr s) := E.o.holds 0 rfl;obtain ⟨g0, o0, r0⟩ := hrd.opn; have R0 := Bx.mk r0; clear r0 hrd;refine xrl<|xr 2 rfl<|xy rfl (vn 9 1 rfl)<|xy rfl (fun a J=>ZO (r := (((Zr s).length - 1 : Nat) : Int)) rfl (J.ev rfl) (J.ev rfl) ((Yi (by omega)).trans (by omega)))<|xy rfl (vxr 9 ((Zr s).length - 1) 1 rfl (R0.out.ao ((Zr s).length - 1) (by omega)))<|xy rfl (fun a J=>ylo (v := .string ((Zr s).getD ((Zr s).length - 1) ByteArray.empty)) rfl (J.ev rfl) (R0.out.elem1 (St.start _) (Zi (xs := (Zr s)) (j := (Zr s).length - 1) (d := ByteArray.empty) (by omega)) rfl))<|xr 1 rfl<|xne<|xre<|xb1 results119 rfl ?_;exact ⟨rfl, E.o.bel⟩
theorem QF (fb : Nat) (q : SQ) (t : Ze) (full : Bool) {ns : List (Option Zb)} {R : List PtrD} (hG : FG q.d t ns R) (s : ByteArray) (hp : ZL s = true) (hs : s.size ≤ 4000000000) (w0 : World) (hB : Box w0 fb 16 119 (fV q t full)) (hR : Rd Zu 1 w0 q.a0 q.d.ac.length q.d.ac) : Calls prog 120 #[.pointer (some ⟨fb, 0, none⟩), .string s] w0 fun e w' => e = .returned (.int .i64 (ZfD (findN q.d (ns.take t.ai.toNat) (Zr s) 0))) ∧ Below w0.heap.size w0 w' := by
 have hFB := hG.fs.fb; have hn4 := J8 hp; have htb := hG.fs.tab;have HB := Bx.mk hB; have HR := Bx.mk hR; clear hB hR;have E := Bx.mk (St.start w0);refine ent func120 ntmps120 ?_;refine xsr<|xr 1 rfl<|xne<|xsq ?_;refine hld [] E ?_;clear E;intro w1 E M;refine Hp 0 E rfl<|Hp 1 E rfl<|Hf 2 0 E rfl<|xhy 3 E.o rfl rfl (fun E a J=>ylr (cs := q.l) rfl (J.ev rfl) ((HB.out.below E.bel (Nat.le_refl _)).sub 0 8))<|Hp 4 E rfl<|Hp 5 E rfl<|Hf 6 8 E rfl<|xhy 7 E.o rfl rfl (fun E a J=>ylr (cs := tL t) rfl (J.ev rfl) ((HB.out.below E.bel (Nat.le_refl _)).sub 8 7))<|Hp 8 E rfl ?_;refine Zk 9 ?_;refine yo (ZeE s _ hp hs) func129 ?_;rintro _ w3 ⟨ao1, cp1, rfl, hcp, hs1⟩;refine ⟨_, rfl, ?_⟩;replace E := Bx.mk (E.o.later hs1.bel); replace M := M.ad hs1;clear hs1;intro a J;replace M:=M.nm;refine ⟨E.o, ?_⟩;revert a;refine Zk 10 ?_;refine yoB (Zdc q.a0 q.c0 q.a1 q.c1 q.a2 q.c2 q.a4 q.c4 q.a6 q.c6 q.d t htb (Zbg htb) _ _ (Zr s) _ (HR.out.below M.o.bel) (Xm hFB.ok) hFB.h0 (by omega) (M.o.holds 0 rfl)) func155 ?_;intro w4 hb; replace E := Bx.mk (E.o.later hb); replace M := Bx.mk (M.o.later hb);clear hb; refine onb E.o ?_;refine Hp 11 E rfl ?_;refine hdn ?_;replace E := M; clear M;refine xet<|xre<|xb1 results120 rfl ?_;exact ⟨rfl, E.o.bel⟩
theorem ZmP {P : Program} {o : Oper} {a : Act} {w : World} {T : TypeId} {x : Operand} {j : Nat} {v c : Value} (ho : o.op = .field T x j) (hx : a.eval x = v) (hr : ∀ w, (Instr.field T v j).run P w = .ok c w) : Yl P w o a c := by simp [Yl, execOp, ho, hx, hr]
theorem ZhY {w : World} {ao : Option Addr} {n : Nat} {xs : List ByteArray} (h : Rd Zu 1 w ao n xs) : Rd Zu 1 w ao xs.dropLast.length xs.dropLast := by
 rw [List.length_dropLast, List.dropLast_eq_take]; exact h.take (by omega)
theorem Ue {st : Za} {ns : List (Option Zb)} : ∀ {nms : List ByteArray} {k a : Nat}, findN st ns nms k = some a → k ≤ 15 → a ≤ 15
 | [], k, a, h, hk => by rw [UU] at h; obtain rfl := Option.some.inj h; exact hk
 | s :: r, k, a, h, hk => by
  cases hix : QD (entK st ns k) s with
  | none => rw [UV hix] at h; cases h
  | some i =>
   rw [UW hix] at h;refine Ue h ?_;have hat := Zb4 (entK st ns k) s;rw [hix] at hat;obtain ⟨hlt, _⟩ := hat;have := Xe (Zgn k) (UX hlt)
   omega
theorem ZeF {st : Za} {ns : List (Option Zb)} {b : ByteArray} : ∀ {nms : List ByteArray} {k : Nat}, findN st ns (nms ++ [b]) k = (findN st ns nms k).bind fun a => (QD (entK st ns a) b).map fun i => ((entK st ns a).getD i Zc.zero).aG.toNat
 | [], k => by
  rw [nil_append, UU];show _ = (QD (entK st ns k) b).map _
  cases hix : QD (entK st ns k) b with
  | none => rw [UV hix]; rfl
  | some i => rw [UW hix, UU]; rfl
 | s :: r, k => by
  rw [cons_append]
  cases hix : QD (entK st ns k) s with
  | none => rw [UV hix, UV hix]; rfl
  | some i => rw [UW hix, UW hix, ZeF]
theorem ZhZ {ns : List (Option Zb)} {m k : Nat} (h : k < m) : (ns.take m).getD k none = ns.getD k none := by
 rw [getD_eq_getElem?_getD, getD_eq_getElem?_getD, List.getElem?_take_of_lt h]
theorem FG.entK {st : Za} {t : Ze} {ns : List (Option Zb)} {R : List PtrD} (h : FG st t ns R) (k : Nat) : entK st (ns.take t.ai.toNat) k = Ya st t k := by
 have H := Zbg h.fs.tab;have e : ZaN (ns.take t.ai.toNat) k = (nodeP st t k).getD Zb.zero := by
  rw [h.fs.node]
  by_cases hk : k < t.ai.toNat
  ·cases hg : ns.getD k none with
   | none => rw [Ud (by rw [ZhZ hk]; exact hg)]; rfl
   | some n => rw [Zbn (by rw [ZhZ hk]; exact hg)]; rfl
  ·rw [h.fs.out (by omega), Ud (by rw [getD_eq_getElem?_getD, List.getElem?_eq_none (by rw [length_take]; omega)]; rfl)]; rfl
 unfold Ya
 cases hE : entF st ((nodeP st t k).getD Zb.zero) with
 | none => rw [ZjO H (by rw [e]; exact hE)]; rfl
 | some es => rw [ZhR H (by rw [e]; exact hE)]; rfl
theorem FG.dir {st : Za} {t : Ze} {ns : List (Option Zb)} {R : List PtrD} (h : FG st t ns R) {k i : Nat} (hi : i < (Ya st t k).length) : ∃ n, ns.getD k none = some n ∧ n.aj = 2 ∧ entF st n = some (Ya st t k) ∧ k < 16 := by
 rw [← h.fs.node];unfold Ya at hi ⊢
 cases hE : entF st ((nodeP st t k).getD Zb.zero) with
 | none => rw [hE] at hi; simp at hi
 | some es =>
  obtain ⟨_, ho, hk2⟩ := ZgE hE
  cases hn : nodeP st t k with
  | none => rw [hn] at ho; rw [show ((none : Option Zb).getD Zb.zero) = Zb.zero from rfl, Zdu] at ho; cases ho
  | some n =>
   rw [hn] at hE hk2;refine ⟨n, rfl, hk2, hE, ?_⟩;have := (ZhU hn).2;have := h.fs.tv.many
   omega
def Zi4 (st : Za) (t : Ze) (ns : List (Option Zb)) (s : ByteArray) (at_ cd : Int) : Prop :=
 (0 < cd ∧ ∀ a n, (Zr s).length ≠ 0 → findN st (ns.take t.ai.toNat) (Zr s).dropLast 0 = some a → ns.getD a none = some n → n.aj = 2 → False) ∨
 (cd = 0 ∧ (Zr s).length ≠ 0 ∧ ∃ a n, findN st (ns.take t.ai.toNat) (Zr s).dropLast 0 = some a ∧ at_ = (a : Int) ∧ ns.getD a none = some n ∧ n.aj = 2)
theorem QZ (fb : Nat) (q : SQ) (t : Ze) (full : Bool) {ns : List (Option Zb)} {R : List PtrD} (hG : FG q.d t ns R) (s : ByteArray) (hp : ZL s = true) (hs : s.size ≤ 4000000000) (w0 : World) (hB : Box w0 fb 16 119 (fV q t full)) (hR : Rd Zu 1 w0 q.a0 q.d.ac.length q.d.ac) : Calls prog 122 #[.pointer (some ⟨fb, 0, none⟩), .string s] w0 fun e w' => ∃ (at_ cd : Int), e = .returned (.tuple #[.int .i64 at_, .int .i64 cd]) ∧ Below w0.heap.size w0 w' ∧ Zi4 q.d t ns s at_ cd := by
 have hdl : (Zr s).dropLast.length = (Zr s).length - 1 := List.length_dropLast ..;have hFB := hG.fs.fb; have hn4 := J8 hp; have htb := hG.fs.tab;have HB := Bx.mk hB; have HR := Bx.mk hR; clear hB hR;have E := Bx.mk (St.start w0);refine ent func122 ntmps122 ?_;refine xsr<|xr 2 rfl<|xne<|xsr<|xr 1 rfl ?_;refine yc (ZeE s _ hp hs) func129 ?_;rintro _ w1 ⟨ao1, cp1, rfl, hcp, hs1⟩;refine ⟨_, rfl, ?_⟩;replace E := E.ad hs1;clear hs1;refine xr 1 rfl<|xne<|xsq<|xsr<|xr 1 rfl<|xy rfl (vn 9 1 rfl)<|xr 1 rfl<|xne<|xce 12 rfl (fun _ dcc1=>?_) fun _ dcc1=>?_;refine xct rfl<|xsr<|xr 2 rfl<|xne<|xre<|xtr<|xb2 results122 rfl rfl ?_;exact ⟨_, _, rfl, E.o.bel, .inl ⟨by decide, fun a n h => absurd (by omega) h⟩⟩;refine xcf rfl<|xsk<|xet<|xsq ?_;have hnz : (Zr s).length ≠ 0 := by omega
 intro a J;refine Yf (by kernel_rfl) (by kernel_rfl) E.o ?_;revert a;refine xqr 2 rfl<|Qf 0 rfl<|xq rfl (fun E a J=>ylr (cs := q.l) rfl (J.ev rfl) ((HB.out.below E.bel (Nat.le_refl _)).sub 0 8))<|xqr 2 rfl<|Qf 8 rfl<|xq rfl (fun E a J=>ylr (cs := tL t) rfl (J.ev rfl) ((HB.out.below E.bel (Nat.le_refl _)).sub 8 7))<|xqr 2 rfl<|xq rfl (fun E=>vn 9 1 rfl)<|xq rfl (fun E a J=>ZO rfl (J.ev rfl) (J.ev rfl) (Yi (by omega)))<|xq rfl (fun E a J=>JP (e := 9) (size := 1) (k := (Zr s).dropLast.length) rfl (J.ev rfl) (J.ev rfl) (by kernel_rfl) (by omega) (by omega)) ?_;refine yq (fun _ E => Zdc q.a0 q.c0 q.a1 q.c1 q.a2 q.c2 q.a4 q.c4 q.a6 q.c6 q.d t htb (Zbg htb) _ _ ((Zr s).dropLast) _ (HR.out.below E.bel) (Xm hFB.ok) hFB.h0 (by simp only [List.length_dropLast]; omega) (ZhY (E.holds 0 rfl))) func155 ?_;refine xqr 1 rfl ?_;intro a J;refine wpQuiet_nil ?_; intro w2 E; replace E := Bx.mk E;revert a;refine xet<|xsq<|xsr<|xr 2 rfl<|xne<|xcd 28 rfl (fun cc2 dcc2=>?_) fun cc2 dcc2=>?_
 have hnn : findN q.d (ns.take t.ai.toNat) (Zr s).dropLast 0 = none := ZcK (by first | exact of_decide_eq_true cc2 | exact dcc2);refine xct rfl<|xsr<|xr 2 rfl<|xne<|xre<|xtr<|xb2 results122 rfl rfl ?_;exact ⟨_, _, rfl, E.o.bel, .inl ⟨by decide, fun a n _ h => by rw [hnn] at h; cases h⟩⟩;obtain ⟨a9, ha9⟩ := U5 (o := findN q.d (ns.take t.ai.toNat) (Zr s).dropLast 0) (by first | exact of_decide_eq_false cc2 | exact dcc2);intro a J;have h15 := Ue ha9 (by omega); rw [ha9, Qx] at J;revert a;refine xcf rfl<|xsk<|xet<|xsq<|xsr<|xr 2 rfl ?_;refine ycB (Uw fb q t full hFB a9 (by omega) _ (HB.out.below E.o.bel (Nat.le_refl _)) (HR.out.below E.o.bel)) func121 E ?_;clear E;intro w3 E;refine xy rfl (fun a J=>ZmP (c := .int .i64 ((nodeP q.d t a9).getD Zb.zero).aj) rfl (J.ev rfl) (fun _ => by kernel_rfl))<|xr 1 rfl<|xne<|xcn 33 rfl (fun _ dcc3=>?_) fun _ dcc3=>?_;refine xct rfl<|xsr<|xr 2 rfl<|xne<|xre<|xtr<|xb2 results122 rfl rfl ?_;exact ⟨_, _, rfl, E.o.bel, .inl ⟨by decide, fun a n _ h hn hk => by rw [ha9] at h; obtain rfl := Option.some.inj h; rw [hG.fs.node, hn] at dcc3; exact dcc3 hk⟩⟩;refine xcf rfl<|xsk<|xet<|xsr<|xr 3 rfl<|xne<|xre<|xb2 results122 rfl rfl ?_;have hk9 : ((nodeP q.d t a9).getD Zb.zero).aj = 2 := by have := dcc3; omega
 obtain ⟨n9, hn9⟩ : ∃ n, nodeP q.d t a9 = some n := by cases h : nodeP q.d t a9 with | none => (rw [h] at hk9; exact absurd hk9 (by decide)) | some n => exact ⟨n, rfl⟩
 rw [hn9] at hk9; rw [hG.fs.node] at hn9;exact ⟨_, _, rfl, E.o.bel, .inr ⟨rfl, hnz, a9, n9, ha9, rfl, hn9, hk9⟩⟩
theorem Zch (fb : Nat) (q : SQ) (t : Ze) (full : Bool) {ns : List (Option Zb)} {R : List PtrD} (hG : FG q.d t ns R) (s : ByteArray) (hp : ZL s = true) (hs : s.size ≤ 4000000000) (w0 : World) (hB : Box w0 fb 16 119 (fV q t full)) (hR : Rd Zu 1 w0 q.a0 q.d.ac.length q.d.ac) : Calls prog 113 #[.pointer (some ⟨fb, 0, none⟩), .string s] w0 fun e w' => ∃ (at_ cd : Int), e = .returned (.tuple #[.int .i64 at_, .int .i64 cd]) ∧ Below w0.heap.size w0 w' ∧ (cd = 0 → Zi4 q.d t ns s at_ 0 ∧ findN q.d (ns.take t.ai.toNat) (Zr s) 0 = none) ∧ (cd ≠ 0 → 0 < cd) := by
 have hFB := hG.fs.fb; have hn4 := J8 hp; have htb := hG.fs.tab;have HB := Bx.mk hB; have HR := Bx.mk hR; clear hB hR;have E := Bx.mk (St.start w0);refine ent func113 ntmps113 ?_;refine xsr<|xr 2 rfl<|xne<|xsr<|xr 2 rfl ?_;refine yc (QZ fb q t full hG s hp hs _ (HB.out.below E.o.bel (Nat.le_refl _)) (HR.out.below E.o.bel)) func122 ?_;rintro _ w1 ⟨at9, cd9, rfl, hb, hpl⟩;refine ⟨_, rfl, ?_⟩; replace E := Bx.mk (E.o.later hb);clear hb;refine xr 5 rfl<|xne<|xsq<|xsr<|xr 2 rfl<|xne<|xcd 15 rfl (fun _ dcc1=>?_) fun _ dcc1=>?_;refine xct rfl<|xsr<|xr 3 rfl<|xne<|xre<|xtr<|xb2 results113 rfl rfl ?_;exact ⟨_, _, rfl, E.o.bel, fun h => absurd h (by omega), fun _ => by omega⟩;refine xcf rfl<|xsk<|xet<|xsq<|xsr<|xr 2 rfl ?_;refine ycB (QF fb q t full hG s hp hs _ (HB.out.below E.o.bel (Nat.le_refl _)) (HR.out.below E.o.bel)) func120 E ?_;clear E;intro w2 E;refine xr 1 rfl<|xne<|xcd 20 rfl (fun _ dcc2=>?_) fun _ dcc2=>?_;refine xct rfl<|xsr<|xr 2 rfl<|xne<|xre<|xtr<|xb2 results113 rfl rfl ?_;exact ⟨_, _, rfl, E.o.bel, fun h => absurd h (by omega), fun _ => by omega⟩;refine xcf rfl<|xsk<|xet<|xsr<|xr 3 rfl<|xne<|xre<|xb2 results113 rfl rfl ?_;have hc0 : cd9 = 0 := by rcases hpl with ⟨h, _⟩ | ⟨h, _⟩ <;> omega
 have hnn : findN q.d (ns.take t.ai.toNat) (Zr s) 0 = none := ZcK (by omega);exact ⟨at9, 0, rfl, E.o.bel, fun _ => ⟨by rw [← hc0]; exact hpl, hnn⟩, fun h => absurd rfl h⟩
theorem ZeG (w0 w : World) (fb : Nat) (q : SQ) (t : Ze) {st0 : Za} {ns : List (Option Zb)} {R : List PtrD} (hG : FG st0 t ns R) (k : Nat) (hk : k < 16) (n : Zb) (hH : FH q.d t ns k (n.ah.all q.d ++ R)) (hv : TV q.d n.ah) (h0 : k = 0 → n.ok = true ∧ n.aj = 2) (F : List Asr) (hS : St w0 (boxA fb 16 119 (.agg #[.slice q.a0 q.d.ac.length q.c0, .slice q.a1 q.d.aa.ag.length q.c1, .slice q.a2 q.d.aa.au.length q.c2, .int .i64 q.d.av, .slice q.a4 q.d.ak.length q.c4, .int .i64 q.d.az, .slice q.a6 q.d.ar.length q.c6, .bool q.d.aA, .int .i64 t.af.aC, .int .i64 t.af.al, .int .i64 t.af.am, .int .i64 t.af.aB, .int .i64 t.af.aq, .int .i64 t.aw, .int .i64 t.ai, .bool false]) :: q.asr :: F) w) :
  Calls prog 116 #[.pointer (some ⟨fb, 0, none⟩), .int .i64 (k : Int), .agg #[.int .i64 n.aj, .int .i64 n.ax, .int .i64 n.am, .int .i64 n.ah.af.aC, .int .i64 n.ah.af.al, .int .i64 n.ah.af.am, .int .i64 n.ah.af.aB, .int .i64 n.ah.af.aq, .int .i64 n.ah.aw, .int .i64 n.ah.ai]] w fun e w' => ∃ (q' : SQ) (t' : Ze) (full' : Bool), (full' = false → FG q'.d t' (ns.set k (if n.ok = true then some n else none)) R) ∧ (full' = true → FB q'.d t') ∧ TK q.d q'.d ∧ e = .returned (.tuple #[]) ∧ St w0 (boxA fb 16 119 (.agg #[.slice q'.a0 q'.d.ac.length q'.c0, .slice q'.a1 q'.d.aa.ag.length q'.c1, .slice q'.a2 q'.d.aa.au.length q'.c2, .int .i64 q'.d.av, .slice q'.a4 q'.d.ak.length q'.c4, .int .i64 q'.d.az, .slice q'.a6 q'.d.ar.length q'.c6, .bool q'.d.aA, .int .i64 t'.af.aC, .int .i64 t'.af.al, .int .i64 t'.af.am, .int .i64 t'.af.aB, .int .i64 t'.af.aq, .int .i64 t'.aw, .int .i64 t'.ai, .bool full']) :: q'.asr :: F) w' := by
 have hfb : FB q.d t := ⟨hH.inv.ok, hH.tv⟩;refine (Zbp w0 w fb q t false (fun _ => hfb.treeX) k hk n hfb.ok F hS).mono ?_;rintro e w' ⟨q1, t1, full1, r1, _, hB, rfl, hs⟩;obtain ⟨e1, e2, e3, e4⟩ := hB rfl;have hd := FG.putd hG hH hv hk h0 e1;refine ⟨q1, t1, full1, fun h => ?_, fun h => ?_, ?_, rfl, hs⟩
 ·rw [e4] at h; rw [e2, e3]; exact hd.1 (by simpa using h)
 ·rw [e4] at h; rw [e2, e3]; exact hd.2.1 (by simpa using h)
 ·rw [e2]; exact hd.2.2
theorem Xg (w0 w : World) (fb : Nat) (q : SQ) (t : Ze) (full : Bool) {ns : List (Option Zb)} {R : List PtrD} (hG : full = false → FG q.d t ns R) (hB : full = true → FB q.d t) (k : Nat) {n : Zb} (hn : ns.getD k none = some n) (h2 : n.aj = 2) (aoE : Option Addr) (cpE : Nat) (es : List Zc) (hes : EG es) (h12 : es.length ≤ 1000) (F : List Asr) (hS : St w0 (boxA fb 16 119 (.agg #[.slice q.a0 q.d.ac.length q.c0, .slice q.a1 q.d.aa.ag.length q.c1, .slice q.a2 q.d.aa.au.length q.c2, .int .i64 q.d.av, .slice q.a4 q.d.ak.length q.c4, .int .i64 q.d.az, .slice q.a6 q.d.ar.length q.c6, .bool q.d.aA, .int .i64 t.af.aC, .int .i64 t.af.al, .int .i64 t.af.am, .int .i64 t.af.aB, .int .i64 t.af.aq, .int .i64 t.aw, .int .i64 t.ai, .bool full]) :: q.asr :: Zg Zc.cells 2 153 (.slice aoE es.length cpE) es :: F) w) :
  Calls prog 117 #[.pointer (some ⟨fb, 0, none⟩), .int .i64 (k : Int), .slice aoE es.length cpE] w fun e w' => ∃ (q' : SQ) (t' : Ze) (full' : Bool), (full' = false → full = false ∧ ∃ n', n'.aj = 2 ∧ FG q'.d t' (ns.set k (some n')) R) ∧ (full' = true → FB q'.d t') ∧ TK q.d q'.d ∧ e = .returned (.tuple #[]) ∧ St w0 (boxA fb 16 119 (.agg #[.slice q'.a0 q'.d.ac.length q'.c0, .slice q'.a1 q'.d.aa.ag.length q'.c1, .slice q'.a2 q'.d.aa.au.length q'.c2, .int .i64 q'.d.av, .slice q'.a4 q'.d.ak.length q'.c4, .int .i64 q'.d.az, .slice q'.a6 q'.d.ar.length q'.c6, .bool q'.d.aA, .int .i64 t'.af.aC, .int .i64 t'.af.al, .int .i64 t'.af.am, .int .i64 t'.af.aB, .int .i64 t'.af.aq, .int .i64 t'.aw, .int .i64 t'.ai, .bool full']) :: q'.asr :: Zg Zc.cells 2 153 (.slice aoE es.length cpE) es :: F) w' := by
 cases full with
 | false =>
  refine (ZhV w0 w fb q t (hG rfl) k hn h2 aoE cpE es hes h12 F hS).mono ?_;rintro e w' ⟨q1, t1, full1, a1, a2, a3, a4, a5⟩;exact ⟨q1, t1, full1, fun h => ⟨rfl, a1 h⟩, a2, a3, a4, a5⟩
 | true =>
  refine (ZhW w0 w fb q t k aoE cpE es _ hS).mono ?_;rintro e w' ⟨a4, a5⟩;exact ⟨q, t, true, fun h => (nomatch h), fun _ => hB rfl, TK.refl _, a4, a5⟩
theorem ZmQ {kd : Int} (h : kd = 1 ∨ kd = 2) : (Zb.mk kd 1 0 tree0).ok = true := by
 rcases h with rfl | rfl
 ·first | rfl | decide
 ·first | rfl | decide
theorem ZaB (st : Za) : tree0.all st = [] := ZW X9 _
theorem FG.fresh {st : Za} {t : Ze} {ns : List (Option Zb)} {R : List PtrD} (h : FG st t ns R) {k : Nat} (hk : k < 16) (hn : ns.getD k none = none) : k ≠ 0 ∧ FH st t ns k (tree0.all st ++ R) := by
 obtain ⟨n0, e0, _⟩ := h.top;refine ⟨fun e => (by rw [e, e0] at hn; cases hn), ?_⟩;have hl := h.fs.len;have h1 := h.fs.hole (id := k) (o := none) (by rw [getD_eq_getElem?_getD, getElem?_eq_getElem (by omega)] at hn; rw [getElem?_eq_getElem (by omega)]; exact congrArg some hn);rw [Vq, nil_append] at h1;rw [ZaB, nil_append]; exact h1
theorem U6 {ns : List (Option Zb)} {k j : Nat} {o : Option Zb} (h : k ≠ j) : (ns.set k o).getD j none = ns.getD j none := by
 rw [getD_eq_getElem?_getD, getD_eq_getElem?_getD, List.getElem?_set_ne h]
theorem JA {st : Za} {t : Ze} {k : Nat} : (Ya st t k).length ≤ 12 := (UT XG).2
theorem ZaC {s : ByteArray} (hp : ZL s = true) (hne : (Zr s).length ≠ 0) : YE (Qo s) = true := by
 refine ZhX hp _ ?_;unfold Qo;rw [getD_eq_getElem?_getD, getElem?_eq_getElem (by omega)]; exact List.getElem_mem _
def OpR (q q' : SQ) (t' : Ze) (full' : Bool) (R : List PtrD) : Prop := GS q'.d t' full' R ∧ TK q.d q'.d
theorem ZeH (w0 w : World) (fb : Nat) (q : SQ) (t : Ze) {ns : List (Option Zb)} {R : List PtrD} (hG : FG q.d t ns R) (s : ByteArray) (hp : ZL s = true) (hs : s.size ≤ 4000000000) (kd : Int) (hkd : kd = 1 ∨ kd = 2) (F : List Asr) (hS : St w0 (boxA fb 16 119 (fV q t false) :: q.asr :: F) w) : Calls prog 86 #[.pointer (some ⟨fb, 0, none⟩), .string s, .int .i64 kd] w fun e w' => ∃ (q' : SQ) (t' : Ze) (full' : Bool) (cd : Int), e = .returned (.int .i64 cd) ∧ OpR q q' t' full' R ∧ St w0 (boxA fb 16 119 (fV q' t' full') :: q'.asr :: F) w' := by
 have hFB := hG.fs.fb; have hmm := hG.fs.tv.many; have hln := hG.fs.len;have E := Bx.mk hS; clear hS;refine ent func86 ntmps86 ?_;refine xsr<|xr 1 rfl<|xne<|xsr<|xr 2 rfl ?_;refine yc (Zch fb q t false hG s hp hs _ (E.o.box 0 rfl) (E.o.sqRd 1 rfl)) func113 ?_;rintro _ w1 ⟨at1, cd1, rfl, hb, hfr1a, hfr1b⟩;refine ⟨_, rfl, ?_⟩; replace E := Bx.mk (E.o.later hb);clear hb;refine xr 5 rfl<|xne<|xsq<|xsr<|xr 2 rfl<|xne<|xcd 18 rfl (fun _ dcc1=>?_) fun _ dcc1=>?_;refine xct rfl<|xsr<|xr 2 rfl<|xne<|xre<|xtr<|xb1 results86 rfl ?_;replace E:=E.pks [1,1];exact ⟨q, t, false, _, rfl, ⟨GS.of hG, TK.refl _⟩, E.o⟩;refine xcf rfl<|xsk<|xet<|xsq ?_;have hc0 : cd1 = 0 := by by_cases h9 : cd1 = 0; (· exact h9); (· have := hfr1b h9; omega)
 obtain ⟨hpl9, hnf9⟩ := hfr1a hc0; obtain ⟨h9, _⟩ | ⟨_, hnz_s, a9, n9, hfa9, hat9, hna9, hka9⟩ := hpl9; (· exact absurd h9 (by decide)); subst hat9; have ha9 := (hG.at_ hna9).1;refine hld [] E ?_;clear E;intro w2 E M;refine Hp 0 E rfl<|Hp 1 E rfl<|Hf 2 0 E rfl<|Hw 3 0 8 E rfl rfl<|Hp 4 E rfl<|Hp 5 E rfl<|Hf 6 8 E rfl<|Hw 7 0 7 E rfl rfl ?_;refine Zk 8 ?_;refine yo (ZiY q t hG.fs _ (M.o.sqRd 1 rfl)) func114 ?_;rintro _ w4 (⟨rfl, hb⟩ | ⟨i9, hi9, hno9, rfl, hb⟩);refine ⟨_, rfl, ?_⟩; replace E := Bx.mk (E.o.later hb); replace M := Bx.mk (M.o.later hb);clear hb; refine onb E.o ?_;refine Hp 9 E rfl ?_;refine hdn ?_;replace E := M; clear M;refine xet<|xsr<|xr 2 rfl ?_;refine yc (Yp fb q t false hFB a9 (by omega) _ (E.o.box 0 rfl) (E.o.sqRd 1 rfl)) func115 ?_;rintro _ w5 ⟨ao2, cp2, rfl, hs⟩;refine ⟨_, rfl, ?_⟩;replace E := E.ad hs;clear hs;refine xr 1 rfl<|xne<|xsq<|xsq ?_;have he12 := JA (st := q.d) (t := t) (k := a9);refine xrl<|xr 3 rfl ?_;intro a J;replace J := J.know (k := 34) (c := true) rfl (by decide);revert a;refine xr 4 rfl<|xne<|xct rfl<|xsr<|xr 1 rfl<|xne<|xre<|xtr<|xb1 results86 rfl ?_;replace E:=E.pks [2,2];exact ⟨q, t, false, _, rfl, ⟨GS.of hG, TK.refl _⟩, (E.o.erase 2)⟩;refine ⟨_, rfl, ?_⟩; replace E := Bx.mk (E.o.later hb); replace M := Bx.mk (M.o.later hb);clear hb; refine onb E.o ?_;refine Hp 9 E rfl ?_;refine hdn ?_;replace E := M; clear M;refine xet<|xsr<|xr 2 rfl ?_;refine yc (Yp fb q t false hFB a9 (by omega) _ (E.o.box 0 rfl) (E.o.sqRd 1 rfl)) func115 ?_;rintro _ w6 ⟨ao3, cp3, rfl, hs⟩;refine ⟨_, rfl, ?_⟩;replace E := E.ad hs;clear hs;refine xr 1 rfl<|xne<|xsq<|xsq ?_;have he12 := JA (st := q.d) (t := t) (k := a9);refine xrl<|xr 3 rfl<|xcd 34 rfl (fun _ dcc2=>?_) fun _ dcc2=>?_;refine xr 4 rfl<|xne<|xct rfl<|xsr<|xr 1 rfl<|xne<|xre<|xtr<|xb1 results86 rfl ?_;replace E:=E.pks [2,2];exact ⟨q, t, false, _, rfl, ⟨GS.of hG, TK.refl _⟩, (E.o.erase 2)⟩;refine xr 1 rfl<|xy rfl (vn 153 2 rfl)<|xr 2 rfl<|xne<|xcd 38 rfl (fun _ dcc3=>?_) fun _ dcc3=>?_;refine xct rfl<|xsr<|xr 1 rfl<|xne<|xre<|xtr<|xb1 results86 rfl ?_;replace E:=E.pks [2,2];exact ⟨q, t, false, _, rfl, ⟨GS.of hG, TK.refl _⟩, (E.o.erase 2)⟩;refine xcf rfl<|xsk<|xet<|xsr<|xr 3 rfl<|xy rfl (vb [.int .i64 kd, .int .i64 1, .int .i64 0, .int .i64 0, .int .i64 0, .int .i64 0, .int .i64 0, .int .i64 0, .int .i64 0, .int .i64 0] rfl) ?_;obtain ⟨hi0, hH9⟩ := hG.fresh hi9 hno9; have hnk9 := ZmQ hkd; have hea9 : a9 ≠ i9 := fun e => by rw [e, hno9] at hna9; cases hna9
 replace E:=E.pks [2,2];refine yc (ZeG w0 _ fb q t hG i9 (by omega) (Zb.mk kd 1 0 tree0) hH9 (tv0 hFB.ok) (fun e => absurd e hi0) _ E.o) func116 ?_;rintro _ w7 ⟨q9, t9, full9, hg9a, hg9b, htk9, rfl, hs1⟩;refine ⟨_, rfl, ?_⟩; replace E := Bx.mk hs1;clear hs1;rw [hnk9, if_pos rfl] at hg9a;refine xne<|xsr<|xr 4 rfl ?_;refine ycB (XC s _ hp hs hnz_s) func119 E ?_;clear E;intro w8 E;refine xr 1 rfl<|xy rfl (vb [.string (Qo s), .int .i64 (i9 : Int)] rfl) ?_;refine yc (JK _ _ (Ya q.d t a9) (Zc.mk (Qo s) (i9 : Int)) _ (EG.of XG) ⟨ZaC hp hnz_s, (by show (1 : Int) ≤ (i9 : Int); omega), (by show (i9 : Int) ≤ 15; omega)⟩ (by omega) (St.rdOf E.o Zc.cells_len 2 rfl)) func118 ?_;rintro _ w9 ⟨ao4, cp4, es4, rfl, hel4, heg4, hs⟩;refine ⟨_, rfl, ?_⟩;replace E := E.ad hs;clear hs;replace E:=E.pks [0,2,2];refine yc (Xg w0 _ fb q9 t9 full9 hg9a hg9b a9 ((U6 (fun e => hea9 e.symm)).trans hna9) hka9 _ _ es4 heg4 (by have := hel4; omega) _ E.o) func117 ?_;rintro _ w10 ⟨q10, t10, full10, hw10a, hw10b, htk10, rfl, hs1⟩;refine ⟨_, rfl, ?_⟩; replace E := Bx.mk hs1;clear hs1;refine xne<|xsr<|xr 1 rfl<|xne<|xre<|xb1 results86 rfl ?_;replace E:=E.pks [1,1];exact ⟨q10, t10, full10, _, rfl, ⟨⟨fun h => by obtain ⟨_, n8, _, h8⟩ := hw10a h; exact ⟨_, h8⟩, hw10b⟩, htk9.trans htk10⟩, (E.o.erS [3,2])⟩
end Go.Proofs.YtfhdmfcfcgbgeaaGreatDoor
