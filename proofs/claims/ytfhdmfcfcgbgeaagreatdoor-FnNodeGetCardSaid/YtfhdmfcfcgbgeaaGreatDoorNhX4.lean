/- A part of the proof in YtfhdmfcfcgbgeaaGreatDoorNhX7. -/
import Derived.Lib.Bytealg
import Derived.Shelf.Slices.Cells
import Derived.Shelf.Slices.Delete
import Derived.Shelf.Slices.Empties
import Derived.Shelf.Slices.Turned
import Derived.Shelf.Small.Strs
import Derived.Shelf.Spec.SlicesGrow
import Derived.Shelf.Spec.SlicesInsert
import Derived.Shelf.Spec.SlicesInsertGrow
import Derived.Test.YtfhdmfcfcgbgeaaGreatDoorNhX3
namespace Go.Proofs.YtfhdmfcfcgbgeaaGreatDoor
set_option maxHeartbeats 4000000
open Go.Proofs.Tryz
open List (append_nil cons_append drop_zero filter_append flatMap_append flatMap_cons flatMap_nil getD_eq_getElem?_getD getElem?_eq_getElem length_append length_cons length_drop length_map length_nil length_set length_singleton length_take map_cons mem_append mem_append_left mem_append_right mem_cons mem_cons_of_mem mem_cons_self mem_flatMap mem_singleton nil_append replicate)
open Option (getD_some)
set_option linter.unusedVariables false
set_option linter.unusedSimpArgs false
set_option maxHeartbeats 1000000
set_option maxRecDepth 100000
open Go.RowKit
theorem Vj (k : Nat) : Zf3 k < 0 ∨ ∃ i : Nat, Zf3 k = i ∧ i < 64 := by
 unfold Zf3
 split
 ·exact .inr ⟨k, rfl, by assumption⟩
 ·exact .inl (by omega)
def ZoG (w0 : World) (st : Za) (text : ByteArray) (level : Int) (a0 : Option Addr) (c0 : Nat) (a1 : Option Addr) (c1 : Nat) (a2 : Option Addr) (c2 : Nat) (a4 : Option Addr) (c4 : Nat) (a6 : Option Addr) (c6 : Nat) (F : List Asr) (e : Ending) (w' : World) : Prop :=
 (Qv st text level < 0 ∧ e = .returned (.tuple #[.agg #[.slice a0 st.ac.length c0, .slice a1 st.aa.ag.length c1, .slice a2 st.aa.au.length c2, .int .i64 st.av, .slice a4 st.ak.length c4, .int .i64 st.az, .slice a6 st.ar.length c6, .bool st.aA], .agg #[.int .i64 0, .int .i64 0, .int .i64 0, .int .i64 0, .int .i64 0], .bool false]) ∧ St w0 (Zg Zu 1 9 (.slice a0 st.ac.length c0) st.ac :: Zg ZG 1 3 (.slice a1 st.aa.ag.length c1) st.aa.ag :: Zg ZG 1 3 (.slice a2 st.aa.au.length c2) st.aa.au :: Zg PtrD.cells 5 24 (.slice a4 st.ak.length c4) st.ak :: Zg PtrD.cells 5 24 (.slice a6 st.ar.length c6) st.ar :: F) w') ∨
 (∃ i : Nat, i < 64 ∧ Qv st text level = i ∧ ((XI (i : Int) st.av level text = false ∧ e = .returned (.tuple #[.agg #[.slice a0 st.ac.length c0, .slice a1 st.aa.ag.length c1, .slice a2 st.aa.au.length c2, .int .i64 st.av, .slice a4 st.ak.length c4, .int .i64 st.az, .slice a6 st.ar.length c6, .bool st.aA], .agg #[.int .i64 0, .int .i64 0, .int .i64 0, .int .i64 0, .int .i64 0], .bool false]) ∧ St w0 (Zg Zu 1 9 (.slice a0 st.ac.length c0) st.ac :: Zg ZG 1 3 (.slice a1 st.aa.ag.length c1) st.aa.ag :: Zg ZG 1 3 (.slice a2 st.aa.au.length c2) st.aa.au :: Zg PtrD.cells 5 24 (.slice a4 st.ak.length c4) st.ak :: Zg PtrD.cells 5 24 (.slice a6 st.ar.length c6) st.ar :: F) w') ∨ (XI (i : Int) st.av level text = true ∧ e = .returned (.tuple #[.agg #[.slice a0 st.ac.length c0, .slice a1 st.aa.ag.length c1, .slice a2 st.aa.au.length c2, .int .i64 st.av, .slice a4 st.ak.length c4, .int .i64 st.az, .slice a6 st.ar.length c6, .bool st.aA], .agg #[.int .i64 (Xa (i : Int) st.av level text).aC, .int .i64 (Xa (i : Int) st.av level text).al, .int .i64 (Xa (i : Int) st.av level text).am, .int .i64 (Xa (i : Int) st.av level text).aB, .int .i64 (Xa (i : Int) st.av level text).aq], .bool true]) ∧ St w0 (Zg Zu 1 9 (.slice a0 st.ac.length c0) (st.ac.set i text) :: Zg ZG 1 3 (.slice a1 st.aa.ag.length c1) (st.aa.ag.set i (st.aa.ag.getD i 0 + 1)) :: Zg ZG 1 3 (.slice a2 st.aa.au.length c2) (st.aa.au.set i st.av) :: Zg PtrD.cells 5 24 (.slice a4 st.ak.length c4) st.ak :: Zg PtrD.cells 5 24 (.slice a6 st.ar.length c6) st.ar :: F) w')))
theorem Zhw (w0 w : World) (a0 : Option Addr) (c0 : Nat) (a1 : Option Addr) (c1 : Nat) (a2 : Option Addr) (c2 : Nat) (a4 : Option Addr) (c4 : Nat) (a6 : Option Addr) (c6 : Nat) (st : Za) (text : ByteArray) (level : Int) (F : List Asr) (hS : St w0 (Zg Zu 1 9 (.slice a0 st.ac.length c0) st.ac :: Zg ZG 1 3 (.slice a1 st.aa.ag.length c1) st.aa.ag :: Zg ZG 1 3 (.slice a2 st.aa.au.length c2) st.aa.au :: Zg PtrD.cells 5 24 (.slice a4 st.ak.length c4) st.ak :: Zg PtrD.cells 5 24 (.slice a6 st.ar.length c6) st.ar :: F) w) (h0 : st.ac.length = 64) (h1 : st.aa.ag.length = 64) (h2 : st.aa.au.length = 64) (hs : text.size ≤ 9223372036854775806) (hr : ∀ i, 0 ≤ st.aa.ag.getD i 0 ∧ st.aa.ag.getD i 0 ≤ 900) : Calls prog 149 #[sV a0 c0 a1 c1 a2 c2 a4 c4 a6 c6 st, .string text, .int .i64 level] w (ZoG w0 st text level a0 c0 a1 c1 a2 c2 a4 c4 a6 c6 F) := by
 obtain ⟨g0, rfl, _, _, _, _⟩ := hS.rowOpen 0 rfl (by omega);obtain ⟨g1, rfl, _, _, _, _⟩ := hS.rowOpen 1 rfl (by omega);obtain ⟨g2, rfl, _, _, _, _⟩ := hS.rowOpen 2 rfl (by omega);have E := Bx.mk hS;clear hS;refine QM func149 rfl ntmps149 [(0, .agg #[.slice (some ⟨g0, 0, none⟩) st.ac.length c0, .slice (some ⟨g1, 0, none⟩) st.aa.ag.length c1, .slice (some ⟨g2, 0, none⟩) st.aa.au.length c2, .int .i64 st.av, .slice a4 st.ak.length c4, .int .i64 st.az, .slice a6 st.ar.length c6, .bool st.aA]), (1, .string text), (2, .int .i64 level)] ⟨rfl, rfl, rfl, trivial⟩ rfl ?_;refine xsr ?_;refine ybx E ?_;clear E;intro w1 b1 E;refine yal z8 E ?_;clear E;intro w2 b2 E;refine yal z5 E ?_;clear E;intro w3 b3 E;refine xr 1 rfl<|xne<|xsr<|xr 1 rfl<|xne<|xsq<|xsr<|Xf 7 rfl<|Xl 2 E rfl rfl<|xr 1 rfl<|xcs 14 rfl (fun cc1=>?_) fun cc1=>?_;refine xr 3 rfl<|xne<|xcs 17 rfl (fun cc2=>?_) fun cc2=>?_;have hls : ZbX st text level = ZaF st text := by unfold ZbX; rw [cc1, cc2]; rfl
 refine xct rfl<|xrl<|Xw 2 8 E rfl rfl<|xr 1 rfl ?_;refine ycB (ZiI _ st text _ (Za.reads_of E.o st _ _ _ _ _ _ _ _ _ _ 3 4 5 6 7 rfl rfl rfl rfl rfl) (by omega) (by omega) (by omega)) func179 E ?_;clear E;intro w4 E;refine xr 1 rfl<|xne<|xsq<|xsr<|xr 2 rfl<|xne<|xcs 22 rfl (fun cc3=>?_) fun cc3=>?_;have hws : Qv st text level = Uj st.aa := by unfold Qv; rw [if_pos (by rw [hls]; exact of_decide_eq_true cc3)]
 refine xct rfl ?_;have hws : Qv st text level = Uj st.aa := by unfold Qv; rw [if_pos (by rw [hls]; first | omega | (exact of_decide_eq_true (by assumption)))]
 refine xrl<|Xf 1 rfl<|Xw 2 2 E rfl rfl ?_;refine yem 3 1 E ?_;clear E;intro w5 b4 E;refine ycB (Zbe _ _ _ _ _ _ _ st.aa _ (St.rdOf E.o Zp 4 rfl) (by omega)) func180 E ?_;clear E;intro w6 E;refine xr 1 rfl<|xne<|xsq<|xsr<|xr 2 rfl<|xne<|xcs 28 rfl (fun cc4=>?_) fun cc4=>?_;have hneg := of_decide_eq_true cc4;refine xct rfl<|xsr<|Xw 2 8 E rfl rfl<|xy rfl (vb z5 rfl) ?_;refine yst E 1 ?_;clear E;intro w7 E;replace E:=E.nm;refine yst E 0 ?_;clear E;intro w8 E;replace E:=E.nm;refine xr 1 rfl<|xne<|xre<|xtr ?_;intro a J;refine Zx J results149 (J.resBox rfl (E.o.box 1 rfl) (by kernel_rfl)) (J.resBox rfl (E.o.box 0 rfl) (by kernel_rfl)) (J.res rfl) ?_;exact .inl ⟨by rw [hws]; exact hneg, rfl, E.o.tail.tail.tail⟩;obtain ⟨i, hi, hi64⟩ : ∃ i : Nat, Uj st.aa = i ∧ i < 64 := (Vj _).resolve_left (of_decide_eq_false cc4);intro a J;replace J : Fr 70 a [(1, .string text), (2, .int .i64 level), (3, .pointer (some ⟨b1, 0, none⟩)), (6, .pointer (some ⟨b2, 0, none⟩)), (7, .pointer (some ⟨b3, 0, none⟩)), (8, .bool false), (9, .int .i64 (i : Int)), (22, .bool true), (28, .bool false)] := by
   rw [← hi]; exact J.ls _
 rw [hi] at hws;revert a;refine xcf rfl<|xsk<|xet<|xsr<|xr 1 rfl<|Xf 3 rfl<|Xl 2 E rfl rfl<|xr 2 rfl ?_;refine ycB (Qt (i : Int) st.av level text _ (by omega)) func72 E ?_;clear E;intro w9 E;refine xr 3 rfl ?_;refine yal z5 E ?_;clear E;intro w10 b5 E;refine yst E 0 ?_;clear E;intro w11 E;replace E:=E.nm;refine xr 1 rfl<|xne<|xsq<|xsr<|xr 2 rfl<|xne<|xcs 41 rfl (fun cc5=>?_) fun cc5=>?_;have hpk : XI (i : Int) st.av level text = false := by simpa using cc5
 refine xct rfl<|xsr<|Xw 3 8 E rfl rfl<|xy rfl (vb z5 rfl) ?_;refine yst E 2 ?_;clear E;intro w12 E;replace E:=E.nm;refine yst E 1 ?_;clear E;intro w13 E;replace E:=E.nm;refine xr 1 rfl<|xne<|xre<|xtr ?_;intro a J;refine Zx J results149 (J.resBox rfl (E.o.box 2 rfl) (by kernel_rfl)) (J.resBox rfl (E.o.box 1 rfl) (by kernel_rfl)) (J.res rfl) ?_;exact .inr ⟨i, hi64, hws, .inl ⟨hpk, rfl, E.o.tail.tail.tail.tail⟩⟩;have hpk : XI (i : Int) st.av level text = true := by simpa using cc5
 refine xcf rfl<|xsk<|xet<|xsr<|Xf 0 rfl<|Xl 3 E rfl rfl<|xr 2 rfl<|xy rfl (vx 9 i 1 rfl) ?_;intro a J;refine Yj Zf rfl rfl rfl (J.ev rfl) (J.ev rfl) (by kernel_rfl) E.o 4 rfl (by omega) (z := text) rfl rfl ?_; clear E; intro w14 E; replace E := Bx.mk E;refine Zbx<|wp_seq ?_;have hrb := hr i;refine Vd 12 (by kernel_rfl) (by kernel_rfl) E.o ?_;simp only [List.take_succ_cons, List.take_zero, List.drop_succ_cons, drop_zero];intro w15 E;replace E := Bx.mk E;refine ZU rfl J rfl rfl (yfa 1 rfl (J.ev rfl)) ?_; clear J a; intro a J;refine ZU rfl J rfl rfl (yfa 0 rfl (J.ev rfl)) ?_; clear J a; intro a J;refine ZU rfl J rfl rfl (ylo (v := .slice (some ⟨g1, 0, none⟩) st.aa.ag.length c1) rfl (J.ev rfl) (((E.o.box 3 rfl).cell 1).trans rfl)) ?_; clear J a; intro a J;refine ZU rfl J rfl rfl (Y6 rfl (J.ev rfl)) ?_; clear J a; intro a J;refine ZU rfl J rfl rfl (yfa 1 rfl (J.ev rfl)) ?_; clear J a; intro a J;refine ZU rfl J rfl rfl (yfa 0 rfl (J.ev rfl)) ?_; clear J a; intro a J;refine ZU rfl J rfl rfl (ylo (v := .slice (some ⟨g1, 0, none⟩) st.aa.ag.length c1) rfl (J.ev rfl) (((E.o.box 3 rfl).cell 1).trans rfl)) ?_; clear J a; intro a J;refine ZU rfl J rfl rfl (Y6 rfl (J.ev rfl)) ?_; clear J a; intro a J;refine ZU rfl J rfl rfl (Z1 (e := 3) (i := i) (size := 1) rfl (J.ev rfl) (J.ev rfl) (by kernel_rfl) rfl (by omega)) ?_; clear J a; intro a J;refine ZU rfl J rfl rfl (ylo (v := .int .i64 (st.aa.ag.getD i 0)) rfl (J.ev rfl) (E.o.elem1 Zp 5 rfl (Zi (xs := st.aa.ag) (j := i) (d := 0) (by omega)) rfl)) ?_; clear J a; intro a J;refine ZU rfl J rfl rfl (Yc rfl (J.ev rfl) (J.ev rfl) (Yi (by omega))) ?_; clear J a; intro a J;refine ZU rfl J rfl rfl (Z1 (e := 3) (i := i) (size := 1) rfl (J.ev rfl) (J.ev rfl) (by kernel_rfl) rfl (by omega)) ?_; clear J a; intro a J;refine wpStill_nil ?_;refine Yj Zp rfl rfl rfl (J.ev rfl) (J.ev rfl) (by kernel_rfl) E.o 5 rfl (by omega) (z := ((st.aa.ag.getD i 0) + 1)) rfl rfl ?_; clear E; intro w16 E; replace E := Bx.mk E;revert a;refine xne<|xsr<|Xf 1 rfl<|Xf 1 rfl<|Xl 3 E rfl rfl<|xr 1 rfl<|Xf 3 rfl<|Xl 3 E rfl rfl<|xy rfl (vx 3 i 1 rfl) ?_;intro a J;refine Yj Zp rfl rfl rfl (J.ev rfl) (J.ev rfl) (by kernel_rfl) E.o 6 rfl (by omega) (z := st.av) rfl rfl ?_; clear E; intro w17 E; replace E := Bx.mk E;revert a;refine xne<|xsq ?_;refine hld [2,1] E ?_;clear E;intro w18 E M;refine Hw 0 1 8 E rfl rfl<|Hw 1 0 5 E rfl rfl ?_;refine Zk 2 ?_;refine yos 2 [2,1] M ?_;clear E M;intro w19 E M;refine Zk 3 ?_;refine yos 1 [2,1] M ?_;clear E M;intro w20 E M;refine Hp 4 E rfl ?_;refine hdn ?_;replace E := M; clear M;refine xet<|xre ?_;intro a J;refine Zx J results149 (J.resBox rfl (E.o.box 2 rfl) (by kernel_rfl)) (J.resBox rfl (E.o.box 1 rfl) (by kernel_rfl)) (J.res rfl) ?_;exact .inr ⟨i, hi64, hws, .inr ⟨hpk, rfl, E.o.tail.tail.tail.tail⟩⟩;have hws : Qv st text level = ZaF st text := by unfold Qv; rw [hls, if_neg (of_decide_eq_false cc3)]
 obtain ⟨i, hi, hi64⟩ : ∃ i : Nat, ZaF st text = i ∧ i < 64 := (Vj _).resolve_left (of_decide_eq_false cc3);intro a J;replace J : Fr 70 a [(1, .string text), (2, .int .i64 level), (3, .pointer (some ⟨b1, 0, none⟩)), (6, .pointer (some ⟨b2, 0, none⟩)), (7, .pointer (some ⟨b3, 0, none⟩)), (8, .bool false), (9, .int .i64 (i : Int)), (22, .bool false)] := by
   rw [← hi]; exact J.ls _
 rw [hi] at hws;revert a;refine xcf rfl<|xsk<|xet<|xsq<|xsr<|xr 2 rfl<|xne<|xcs 28 rfl (fun cc6=>?_) fun cc6=>?_
 exact absurd (of_decide_eq_true cc6) (by omega);refine xcf rfl<|xsk<|xet<|xsr<|xr 1 rfl<|Xf 3 rfl<|Xl 2 E rfl rfl<|xr 2 rfl ?_;refine ycB (Qt (i : Int) st.av level text _ (by omega)) func72 E ?_;clear E;intro w21 E;refine xr 3 rfl ?_;refine yal z5 E ?_;clear E;intro w22 b6 E;refine yst E 0 ?_;clear E;intro w23 E;replace E:=E.nm;refine xr 1 rfl<|xne<|xsq<|xsr<|xr 2 rfl<|xne<|xcs 41 rfl (fun cc7=>?_) fun cc7=>?_;have hpk : XI (i : Int) st.av level text = false := by simpa using cc7
 refine xct rfl<|xsr<|Xw 3 8 E rfl rfl<|xy rfl (vb z5 rfl) ?_;refine yst E 2 ?_;clear E;intro w24 E;replace E:=E.nm;refine yst E 1 ?_;clear E;intro w25 E;replace E:=E.nm;refine xr 1 rfl<|xne<|xre<|xtr ?_;intro a J;refine Zx J results149 (J.resBox rfl (E.o.box 2 rfl) (by kernel_rfl)) (J.resBox rfl (E.o.box 1 rfl) (by kernel_rfl)) (J.res rfl) ?_;exact .inr ⟨i, hi64, hws, .inl ⟨hpk, rfl, E.o.tail.tail.tail.tail⟩⟩;have hpk : XI (i : Int) st.av level text = true := by simpa using cc7
 refine xcf rfl<|xsk<|xet<|xsr<|Xf 0 rfl<|Xl 3 E rfl rfl<|xr 2 rfl<|xy rfl (vx 9 i 1 rfl) ?_;intro a J;refine Yj Zf rfl rfl rfl (J.ev rfl) (J.ev rfl) (by kernel_rfl) E.o 4 rfl (by omega) (z := text) rfl rfl ?_; clear E; intro w26 E; replace E := Bx.mk E;refine Zbx<|wp_seq ?_;have hrb := hr i;refine Vd 12 (by kernel_rfl) (by kernel_rfl) E.o ?_;simp only [List.take_succ_cons, List.take_zero, List.drop_succ_cons, drop_zero];intro w27 E;replace E := Bx.mk E;refine ZU rfl J rfl rfl (yfa 1 rfl (J.ev rfl)) ?_; clear J a; intro a J;refine ZU rfl J rfl rfl (yfa 0 rfl (J.ev rfl)) ?_; clear J a; intro a J;refine ZU rfl J rfl rfl (ylo (v := .slice (some ⟨g1, 0, none⟩) st.aa.ag.length c1) rfl (J.ev rfl) (((E.o.box 3 rfl).cell 1).trans rfl)) ?_; clear J a; intro a J;refine ZU rfl J rfl rfl (Y6 rfl (J.ev rfl)) ?_; clear J a; intro a J;refine ZU rfl J rfl rfl (yfa 1 rfl (J.ev rfl)) ?_; clear J a; intro a J;refine ZU rfl J rfl rfl (yfa 0 rfl (J.ev rfl)) ?_; clear J a; intro a J;refine ZU rfl J rfl rfl (ylo (v := .slice (some ⟨g1, 0, none⟩) st.aa.ag.length c1) rfl (J.ev rfl) (((E.o.box 3 rfl).cell 1).trans rfl)) ?_; clear J a; intro a J;refine ZU rfl J rfl rfl (Y6 rfl (J.ev rfl)) ?_; clear J a; intro a J;refine ZU rfl J rfl rfl (Z1 (e := 3) (i := i) (size := 1) rfl (J.ev rfl) (J.ev rfl) (by kernel_rfl) rfl (by omega)) ?_; clear J a; intro a J;refine ZU rfl J rfl rfl (ylo (v := .int .i64 (st.aa.ag.getD i 0)) rfl (J.ev rfl) (E.o.elem1 Zp 5 rfl (Zi (xs := st.aa.ag) (j := i) (d := 0) (by omega)) rfl)) ?_; clear J a; intro a J;refine ZU rfl J rfl rfl (Yc rfl (J.ev rfl) (J.ev rfl) (Yi (by omega))) ?_; clear J a; intro a J;refine ZU rfl J rfl rfl (Z1 (e := 3) (i := i) (size := 1) rfl (J.ev rfl) (J.ev rfl) (by kernel_rfl) rfl (by omega)) ?_; clear J a; intro a J;refine wpStill_nil ?_;refine Yj Zp rfl rfl rfl (J.ev rfl) (J.ev rfl) (by kernel_rfl) E.o 5 rfl (by omega) (z := ((st.aa.ag.getD i 0) + 1)) rfl rfl ?_; clear E; intro w28 E; replace E := Bx.mk E;revert a;refine xne<|xsr<|Xf 1 rfl<|Xf 1 rfl<|Xl 3 E rfl rfl<|xr 1 rfl<|Xf 3 rfl<|Xl 3 E rfl rfl<|xy rfl (vx 3 i 1 rfl) ?_;intro a J;refine Yj Zp rfl rfl rfl (J.ev rfl) (J.ev rfl) (by kernel_rfl) E.o 6 rfl (by omega) (z := st.av) rfl rfl ?_; clear E; intro w29 E; replace E := Bx.mk E;revert a;refine xne<|xsq ?_;refine hld [2,1] E ?_;clear E;intro w30 E M;refine Hw 0 1 8 E rfl rfl<|Hw 1 0 5 E rfl rfl ?_;refine Zk 2 ?_;refine yos 2 [2,1] M ?_;clear E M;intro w31 E M;refine Zk 3 ?_;refine yos 1 [2,1] M ?_;clear E M;intro w32 E M;refine Hp 4 E rfl ?_;refine hdn ?_;replace E := M; clear M;refine xet<|xre ?_;intro a J;refine Zx J results149 (J.resBox rfl (E.o.box 2 rfl) (by kernel_rfl)) (J.resBox rfl (E.o.box 1 rfl) (by kernel_rfl)) (J.res rfl) ?_;exact .inr ⟨i, hi64, hws, .inr ⟨hpk, rfl, E.o.tail.tail.tail.tail⟩⟩;have hls : ZbX st text level = -1 := by unfold ZbX; rw [cc1, cc2]; rfl
 refine xcf rfl<|xsk<|xet<|xsq<|xsr<|xr 2 rfl<|xne ?_;intro a J;replace J := J.know (k := 22) (c := true) rfl (by decide);refine Vc J rfl ?_;have hws : Qv st text level = Uj st.aa := by unfold Qv; rw [if_pos (by rw [hls]; first | omega | (exact of_decide_eq_true (by assumption)))]
 revert a;refine xrl<|Xf 1 rfl<|Xw 2 2 E rfl rfl ?_;refine yem 3 1 E ?_;clear E;intro w33 b7 E;refine ycB (Zbe _ _ _ _ _ _ _ st.aa _ (St.rdOf E.o Zp 4 rfl) (by omega)) func180 E ?_;clear E;intro w34 E;refine xr 1 rfl<|xne<|xsq<|xsr<|xr 2 rfl<|xne<|xcs 28 rfl (fun cc8=>?_) fun cc8=>?_;have hneg := of_decide_eq_true cc8;refine xct rfl<|xsr<|Xw 2 8 E rfl rfl<|xy rfl (vb z5 rfl) ?_;refine yst E 1 ?_;clear E;intro w35 E;replace E:=E.nm;refine yst E 0 ?_;clear E;intro w36 E;replace E:=E.nm;refine xr 1 rfl<|xne<|xre<|xtr ?_;intro a J;refine Zx J results149 (J.resBox rfl (E.o.box 1 rfl) (by kernel_rfl)) (J.resBox rfl (E.o.box 0 rfl) (by kernel_rfl)) (J.res rfl) ?_;exact .inl ⟨by rw [hws]; exact hneg, rfl, E.o.tail.tail.tail⟩;obtain ⟨i, hi, hi64⟩ : ∃ i : Nat, Uj st.aa = i ∧ i < 64 := (Vj _).resolve_left (of_decide_eq_false cc8);intro a J;replace J : Fr 70 a [(1, .string text), (2, .int .i64 level), (3, .pointer (some ⟨b1, 0, none⟩)), (6, .pointer (some ⟨b2, 0, none⟩)), (7, .pointer (some ⟨b3, 0, none⟩)), (8, .bool false), (9, .int .i64 (i : Int)), (22, .bool true), (28, .bool false)] := by
   rw [← hi]; exact J.ls _
 rw [hi] at hws;revert a;refine xcf rfl<|xsk<|xet<|xsr<|xr 1 rfl<|Xf 3 rfl<|Xl 2 E rfl rfl<|xr 2 rfl ?_;refine ycB (Qt (i : Int) st.av level text _ (by omega)) func72 E ?_;clear E;intro w37 E;refine xr 3 rfl ?_;refine yal z5 E ?_;clear E;intro w38 b8 E;refine yst E 0 ?_;clear E;intro w39 E;replace E:=E.nm;refine xr 1 rfl<|xne<|xsq<|xsr<|xr 2 rfl<|xne<|xcs 41 rfl (fun cc9=>?_) fun cc9=>?_;have hpk : XI (i : Int) st.av level text = false := by simpa using cc9
 refine xct rfl<|xsr<|Xw 3 8 E rfl rfl<|xy rfl (vb z5 rfl) ?_;refine yst E 2 ?_;clear E;intro w40 E;replace E:=E.nm;refine yst E 1 ?_;clear E;intro w41 E;replace E:=E.nm;refine xr 1 rfl<|xne<|xre<|xtr ?_;intro a J;refine Zx J results149 (J.resBox rfl (E.o.box 2 rfl) (by kernel_rfl)) (J.resBox rfl (E.o.box 1 rfl) (by kernel_rfl)) (J.res rfl) ?_;exact .inr ⟨i, hi64, hws, .inl ⟨hpk, rfl, E.o.tail.tail.tail.tail⟩⟩;have hpk : XI (i : Int) st.av level text = true := by simpa using cc9
 refine xcf rfl<|xsk<|xet<|xsr<|Xf 0 rfl<|Xl 3 E rfl rfl<|xr 2 rfl<|xy rfl (vx 9 i 1 rfl) ?_;intro a J;refine Yj Zf rfl rfl rfl (J.ev rfl) (J.ev rfl) (by kernel_rfl) E.o 4 rfl (by omega) (z := text) rfl rfl ?_; clear E; intro w42 E; replace E := Bx.mk E;refine Zbx<|wp_seq ?_;have hrb := hr i;refine Vd 12 (by kernel_rfl) (by kernel_rfl) E.o ?_;simp only [List.take_succ_cons, List.take_zero, List.drop_succ_cons, drop_zero];intro w43 E;replace E := Bx.mk E;refine ZU rfl J rfl rfl (yfa 1 rfl (J.ev rfl)) ?_; clear J a; intro a J;refine ZU rfl J rfl rfl (yfa 0 rfl (J.ev rfl)) ?_; clear J a; intro a J;refine ZU rfl J rfl rfl (ylo (v := .slice (some ⟨g1, 0, none⟩) st.aa.ag.length c1) rfl (J.ev rfl) (((E.o.box 3 rfl).cell 1).trans rfl)) ?_; clear J a; intro a J;refine ZU rfl J rfl rfl (Y6 rfl (J.ev rfl)) ?_; clear J a; intro a J;refine ZU rfl J rfl rfl (yfa 1 rfl (J.ev rfl)) ?_; clear J a; intro a J;refine ZU rfl J rfl rfl (yfa 0 rfl (J.ev rfl)) ?_; clear J a; intro a J;refine ZU rfl J rfl rfl (ylo (v := .slice (some ⟨g1, 0, none⟩) st.aa.ag.length c1) rfl (J.ev rfl) (((E.o.box 3 rfl).cell 1).trans rfl)) ?_; clear J a; intro a J;refine ZU rfl J rfl rfl (Y6 rfl (J.ev rfl)) ?_; clear J a; intro a J;refine ZU rfl J rfl rfl (Z1 (e := 3) (i := i) (size := 1) rfl (J.ev rfl) (J.ev rfl) (by kernel_rfl) rfl (by omega)) ?_; clear J a; intro a J;refine ZU rfl J rfl rfl (ylo (v := .int .i64 (st.aa.ag.getD i 0)) rfl (J.ev rfl) (E.o.elem1 Zp 5 rfl (Zi (xs := st.aa.ag) (j := i) (d := 0) (by omega)) rfl)) ?_; clear J a; intro a J;refine ZU rfl J rfl rfl (Yc rfl (J.ev rfl) (J.ev rfl) (Yi (by omega))) ?_; clear J a; intro a J;refine ZU rfl J rfl rfl (Z1 (e := 3) (i := i) (size := 1) rfl (J.ev rfl) (J.ev rfl) (by kernel_rfl) rfl (by omega)) ?_; clear J a; intro a J;refine wpStill_nil ?_;refine Yj Zp rfl rfl rfl (J.ev rfl) (J.ev rfl) (by kernel_rfl) E.o 5 rfl (by omega) (z := ((st.aa.ag.getD i 0) + 1)) rfl rfl ?_; clear E; intro w44 E; replace E := Bx.mk E;revert a;refine xne<|xsr<|Xf 1 rfl<|Xf 1 rfl<|Xl 3 E rfl rfl<|xr 1 rfl<|Xf 3 rfl<|Xl 3 E rfl rfl<|xy rfl (vx 3 i 1 rfl) ?_;intro a J;refine Yj Zp rfl rfl rfl (J.ev rfl) (J.ev rfl) (by kernel_rfl) E.o 6 rfl (by omega) (z := st.av) rfl rfl ?_; clear E; intro w45 E; replace E := Bx.mk E;revert a;refine xne<|xsq ?_;refine hld [2,1] E ?_;clear E;intro w46 E M;refine Hw 0 1 8 E rfl rfl<|Hw 1 0 5 E rfl rfl ?_;refine Zk 2 ?_;refine yos 2 [2,1] M ?_;clear E M;intro w47 E M;refine Zk 3 ?_;refine yos 1 [2,1] M ?_;clear E M;intro w48 E M;refine Hp 4 E rfl ?_;refine hdn ?_;replace E := M; clear M;refine xet<|xre ?_;intro a J;refine Zx J results149 (J.resBox rfl (E.o.box 2 rfl) (by kernel_rfl)) (J.resBox rfl (E.o.box 1 rfl) (by kernel_rfl)) (J.res rfl) ?_;exact .inr ⟨i, hi64, hws, .inr ⟨hpk, rfl, E.o.tail.tail.tail.tail⟩⟩;have hls : ZbX st text level = -1 := by unfold ZbX; rw [cc1]; rfl
 refine xr 3 rfl<|xne<|xcf rfl<|xsk<|xet<|xsq<|xsr<|xr 2 rfl<|xne ?_;intro a J;replace J := J.know (k := 22) (c := true) rfl (by decide);refine Vc J rfl ?_;have hws : Qv st text level = Uj st.aa := by unfold Qv; rw [if_pos (by rw [hls]; first | omega | (exact of_decide_eq_true (by assumption)))]
 revert a;refine xrl<|Xf 1 rfl<|Xw 2 2 E rfl rfl ?_;refine yem 3 1 E ?_;clear E;intro w49 b9 E;refine ycB (Zbe _ _ _ _ _ _ _ st.aa _ (St.rdOf E.o Zp 4 rfl) (by omega)) func180 E ?_;clear E;intro w50 E;refine xr 1 rfl<|xne<|xsq<|xsr<|xr 2 rfl<|xne<|xcs 28 rfl (fun cc10=>?_) fun cc10=>?_;have hneg := of_decide_eq_true cc10;refine xct rfl<|xsr<|Xw 2 8 E rfl rfl<|xy rfl (vb z5 rfl) ?_;refine yst E 1 ?_;clear E;intro w51 E;replace E:=E.nm;refine yst E 0 ?_;clear E;intro w52 E;replace E:=E.nm;refine xr 1 rfl<|xne<|xre<|xtr ?_;intro a J;refine Zx J results149 (J.resBox rfl (E.o.box 1 rfl) (by kernel_rfl)) (J.resBox rfl (E.o.box 0 rfl) (by kernel_rfl)) (J.res rfl) ?_;exact .inl ⟨by rw [hws]; exact hneg, rfl, E.o.tail.tail.tail⟩;obtain ⟨i, hi, hi64⟩ : ∃ i : Nat, Uj st.aa = i ∧ i < 64 := (Vj _).resolve_left (of_decide_eq_false cc10);intro a J;replace J : Fr 70 a [(1, .string text), (2, .int .i64 level), (3, .pointer (some ⟨b1, 0, none⟩)), (6, .pointer (some ⟨b2, 0, none⟩)), (7, .pointer (some ⟨b3, 0, none⟩)), (8, .bool false), (9, .int .i64 (i : Int)), (22, .bool true), (28, .bool false)] := by
   rw [← hi]; exact J.ls _
 rw [hi] at hws;revert a;refine xcf rfl<|xsk<|xet<|xsr<|xr 1 rfl<|Xf 3 rfl<|Xl 2 E rfl rfl<|xr 2 rfl ?_;refine ycB (Qt (i : Int) st.av level text _ (by omega)) func72 E ?_;clear E;intro w53 E;refine xr 3 rfl ?_;refine yal z5 E ?_;clear E;intro w54 b10 E;refine yst E 0 ?_;clear E;intro w55 E;replace E:=E.nm;refine xr 1 rfl<|xne<|xsq<|xsr<|xr 2 rfl<|xne<|xcs 41 rfl (fun cc11=>?_) fun cc11=>?_;have hpk : XI (i : Int) st.av level text = false := by simpa using cc11
 refine xct rfl<|xsr<|Xw 3 8 E rfl rfl<|xy rfl (vb z5 rfl) ?_;refine yst E 2 ?_;clear E;intro w56 E;replace E:=E.nm;refine yst E 1 ?_;clear E;intro w57 E;replace E:=E.nm;refine xr 1 rfl<|xne<|xre<|xtr ?_;intro a J;refine Zx J results149 (J.resBox rfl (E.o.box 2 rfl) (by kernel_rfl)) (J.resBox rfl (E.o.box 1 rfl) (by kernel_rfl)) (J.res rfl) ?_;exact .inr ⟨i, hi64, hws, .inl ⟨hpk, rfl, E.o.tail.tail.tail.tail⟩⟩;have hpk : XI (i : Int) st.av level text = true := by simpa using cc11
 refine xcf rfl<|xsk<|xet<|xsr<|Xf 0 rfl<|Xl 3 E rfl rfl<|xr 2 rfl<|xy rfl (vx 9 i 1 rfl) ?_;intro a J;refine Yj Zf rfl rfl rfl (J.ev rfl) (J.ev rfl) (by kernel_rfl) E.o 4 rfl (by omega) (z := text) rfl rfl ?_; clear E; intro w58 E; replace E := Bx.mk E;refine Zbx<|wp_seq ?_;have hrb := hr i;refine Vd 12 (by kernel_rfl) (by kernel_rfl) E.o ?_;simp only [List.take_succ_cons, List.take_zero, List.drop_succ_cons, drop_zero];intro w59 E;replace E := Bx.mk E;refine ZU rfl J rfl rfl (yfa 1 rfl (J.ev rfl)) ?_; clear J a; intro a J;refine ZU rfl J rfl rfl (yfa 0 rfl (J.ev rfl)) ?_; clear J a; intro a J;refine ZU rfl J rfl rfl (ylo (v := .slice (some ⟨g1, 0, none⟩) st.aa.ag.length c1) rfl (J.ev rfl) (((E.o.box 3 rfl).cell 1).trans rfl)) ?_; clear J a; intro a J;refine ZU rfl J rfl rfl (Y6 rfl (J.ev rfl)) ?_; clear J a; intro a J;refine ZU rfl J rfl rfl (yfa 1 rfl (J.ev rfl)) ?_; clear J a; intro a J;refine ZU rfl J rfl rfl (yfa 0 rfl (J.ev rfl)) ?_; clear J a; intro a J;refine ZU rfl J rfl rfl (ylo (v := .slice (some ⟨g1, 0, none⟩) st.aa.ag.length c1) rfl (J.ev rfl) (((E.o.box 3 rfl).cell 1).trans rfl)) ?_; clear J a; intro a J;refine ZU rfl J rfl rfl (Y6 rfl (J.ev rfl)) ?_; clear J a; intro a J;refine ZU rfl J rfl rfl (Z1 (e := 3) (i := i) (size := 1) rfl (J.ev rfl) (J.ev rfl) (by kernel_rfl) rfl (by omega)) ?_; clear J a; intro a J;refine ZU rfl J rfl rfl (ylo (v := .int .i64 (st.aa.ag.getD i 0)) rfl (J.ev rfl) (E.o.elem1 Zp 5 rfl (Zi (xs := st.aa.ag) (j := i) (d := 0) (by omega)) rfl)) ?_; clear J a; intro a J;refine ZU rfl J rfl rfl (Yc rfl (J.ev rfl) (J.ev rfl) (Yi (by omega))) ?_; clear J a; intro a J;refine ZU rfl J rfl rfl (Z1 (e := 3) (i := i) (size := 1) rfl (J.ev rfl) (J.ev rfl) (by kernel_rfl) rfl (by omega)) ?_; clear J a; intro a J;refine wpStill_nil ?_;refine Yj Zp rfl rfl rfl (J.ev rfl) (J.ev rfl) (by kernel_rfl) E.o 5 rfl (by omega) (z := ((st.aa.ag.getD i 0) + 1)) rfl rfl ?_; clear E; intro w60 E; replace E := Bx.mk E;revert a;refine xne<|xsr<|Xf 1 rfl<|Xf 1 rfl<|Xl 3 E rfl rfl<|xr 1 rfl<|Xf 3 rfl<|Xl 3 E rfl rfl<|xy rfl (vx 3 i 1 rfl) ?_;intro a J;refine Yj Zp rfl rfl rfl (J.ev rfl) (J.ev rfl) (by kernel_rfl) E.o 6 rfl (by omega) (z := st.av) rfl rfl ?_; clear E; intro w61 E; replace E := Bx.mk E;revert a;refine xne<|xsq ?_;refine hld [2,1] E ?_;clear E;intro w62 E M;refine Hw 0 1 8 E rfl rfl<|Hw 1 0 5 E rfl rfl ?_;refine Zk 2 ?_;refine yos 2 [2,1] M ?_;clear E M;intro w63 E M;refine Zk 3 ?_;refine yos 1 [2,1] M ?_;clear E M;intro w64 E M;refine Hp 4 E rfl ?_;refine hdn ?_;replace E := M; clear M;refine xet<|xre ?_;intro a J;refine Zx J results149 (J.resBox rfl (E.o.box 2 rfl) (by kernel_rfl)) (J.resBox rfl (E.o.box 1 rfl) (by kernel_rfl)) (J.res rfl) ?_;exact .inr ⟨i, hi64, hws, .inr ⟨hpk, rfl, E.o.tail.tail.tail.tail⟩⟩
theorem Zif.all {s : Zq} (h : Zif s) (i : Nat) : 0 ≤ s.ag.getD i 0 ∧ s.ag.getD i 0 ≤ 900 := by
 by_cases hi : i < 64
 ·have := h.each i hi; omega
 ·rw [show s.ag.getD i 0 = 0 by simp [List.getD, List.getElem?_eq_none (show s.ag.length ≤ i by rw [h.refs]; omega)]]; omega
open Go.Lib
structure Zc where
  aD : ByteArray
  aG : Int
def Zc.zero : Zc := ⟨ByteArray.empty, 0⟩
def Zc.cells (e : Zc) : List Value := [.string e.aD, .int .i64 e.aG]
theorem Zc.cells_len (e : Zc) : e.cells.length = 2 := rfl
def Zd4 (e : Zc) : Bool := YE e.aD && inB e.aG 1 15
def Qm (l : List Zc) (i : Nat) : Bool := Zd4 (l.getD i Zc.zero) && (i == 0 || Op.bytesLess (l.getD (i - 1) Zc.zero).aD.toList (l.getD i Zc.zero).aD.toList)
def YP (l : List Zc) : Bool := decide (∀ i, i < l.length → Qm l i = true) && decide (l.length ≤ 12)
theorem UT {l : List Zc} (h : YP l = true) : (∀ i, i < l.length → Qm l i = true) ∧ l.length ≤ 12 := by
 unfold YP at h;rw [Bool.and_eq_true] at h;exact ⟨of_decide_eq_true h.1, of_decide_eq_true h.2⟩
theorem Q9 {l : List Zc} (h : ∀ i, i < l.length → Qm l i = true) (hl : l.length ≤ 12) : YP l = true := by
 unfold YP; rw [decide_eq_true h, decide_eq_true hl]; rfl
theorem Zcz {l : List Zc} {i : Nat} (hi : i < l.length) (h : Qm l i = false) : YP l = false := by
 unfold YP; rw [decide_eq_false fun k => by rw [k i hi] at h; cases h]; rfl
theorem ZiJ {l : List Zc} {i : Nat} (h : YE (l.getD i Zc.zero).aD = false) : Qm l i = false := by unfold Qm Zd4; rw [h]; rfl
theorem Zmi {l : List Zc} {i : Nat} (h : inB (l.getD i Zc.zero).aG 1 15 = false) : Qm l i = false := by unfold Qm Zd4; rw [h, Bool.and_false]; rfl
theorem ZiK {l : List Zc} {i : Nat} (h0 : i ≠ 0) (h : Op.bytesLess (l.getD (i - 1) Zc.zero).aD.toList (l.getD i Zc.zero).aD.toList = false) : Qm l i = false := by
 unfold Qm;rw [h, beq_eq_false_iff_ne.2 h0]; simp
theorem Zfs {l : List Zc} {i : Nat} (h1 : YE (l.getD i Zc.zero).aD = true) (h2 : inB (l.getD i Zc.zero).aG 1 15 = true) (h3 : i = 0 ∨ Op.bytesLess (l.getD (i - 1) Zc.zero).aD.toList (l.getD i Zc.zero).aD.toList = true) : Qm l i = true := by
 unfold Qm Zd4;rw [h1, h2];rcases h3 with h3 | h3
 ·rw [h3]; rfl
 ·rw [h3]; simp
theorem Zhx {l : List Zc} {i : Nat} (h : Qm l i = true) : YE (l.getD i Zc.zero).aD = true ∧ 1 ≤ (l.getD i Zc.zero).aG ∧ (l.getD i Zc.zero).aG ≤ 15 ∧ (i = 0 ∨ Op.bytesLess (l.getD (i - 1) Zc.zero).aD.toList (l.getD i Zc.zero).aD.toList = true) := by
 unfold Qm Zd4 at h;simp only [Bool.and_eq_true, Bool.or_eq_true, beq_iff_eq] at h;have := Zs h.1.2;exact ⟨h.1.1, this.1, this.2, h.2⟩
theorem Xe {l : List Zc} (h : YP l = true) {e : Zc} (he : e ∈ l) : YE e.aD = true ∧ 1 ≤ e.aG ∧ e.aG ≤ 15 := by
 obtain ⟨i, hi, rfl⟩ := List.getElem_of_mem he;have := Zhx ((UT h).1 i hi);rw [show l.getD i Zc.zero = l[i] by rw [getD_eq_getElem?_getD, getElem?_eq_getElem hi]; rfl] at this;exact ⟨this.1, this.2.1, this.2.2.1⟩
def Zd5 (e : Zc) : List UInt8 := e.aD.data.toList ++ 61 :: (ZI e.aG).data.toList
def J5 (l : List Zc) : List UInt8 := l.flatMap fun e => Zd5 e ++ [59]
def QC (l : List Zc) : ByteArray := ⟨(J5 l).toArray⟩
theorem Zbf (l : List Zc) : (QC l).data.toList = J5 l := rfl
theorem J6 (e : Zc) (l : List Zc) : J5 (e :: l) = Zd5 e ++ 59 :: J5 l := by unfold J5; rw [flatMap_cons, List.append_assoc]; rfl
theorem Zku (a b : List Zc) : J5 (a ++ b) = J5 a ++ J5 b := by unfold J5; rw [flatMap_append]
structure IsEnts (s : ByteArray) (l : List Zc) : Prop where
  ok : YP l = true
  is : QC l = s
theorem Zb1 {s : ByteArray} (h : YE s = true) (c : UInt8) (hc : Jt c = false) : ∀ x ∈ s.data.toList, x ≠ c := by
 unfold YE at h;rw [Bool.and_eq_true] at h;intro x hx e;have := List.all_eq_true.1 h.2 x hx;rw [e, hc] at this; cases this
theorem ZcA {s : ByteArray} (h : YE s = true) : 1 ≤ s.size ∧ s.size ≤ 4 := by
 unfold YE at h;rw [Bool.and_eq_true] at h;have := Zs h.1
 omega
theorem ZoH (n : Int) (c : UInt8) (hc : digitVal c = none) : c ∉ (ZI n).data.toList := fun h => Zga c hc n c h rfl
theorem Zd6 {e : Zc} (h : YE e.aD = true) : (59 : UInt8) ∉ Zd5 e := by
 unfold Zd5;intro hm;rcases mem_append.1 hm with hm | hm
 ·exact Zb1 h 59 (by decide) 59 hm rfl
 ·rcases mem_cons.1 hm with hm | hm
  ·cases hm
  ·exact ZoH _ 59 (by decide) hm
theorem Zgl {c : UInt8} : ∀ {a b x y : List UInt8}, c ∉ a → c ∉ x → a ++ c :: b = x ++ c :: y → a = x ∧ b = y
 | [], b, [], y, _, _, h => by simpa using h
 | [], b, z :: x, y, _, hx, h => by
  simp only [nil_append, cons_append, List.cons.injEq] at h;exact absurd (h.1 ▸ mem_cons_self ..) hx
 | z :: a, b, [], y, ha, _, h => by
  simp only [nil_append, cons_append, List.cons.injEq] at h;exact absurd (h.1 ▸ mem_cons_self ..) ha
 | z :: a, b, u :: x, y, ha, hx, h => by
  simp only [cons_append, List.cons.injEq] at h;obtain ⟨e1, e2⟩ := Zgl (fun hm => ha (mem_cons_of_mem _ hm)) (fun hm => hx (mem_cons_of_mem _ hm)) h.2;exact ⟨by rw [h.1, e1], e2⟩
theorem Zmj {m n : Int} (hm : 0 ≤ m ∧ m ≤ 999999999) (hn : 0 ≤ n ∧ n ≤ 999999999) (h : ZI m = ZI n) : m = n := by
 have h1 := Z6 hm;rw [h, Z6 hn] at h1;have := Option.some.inj h1
 omega
theorem J7 {a b : ByteArray} (h : a.data.toList = b.data.toList) : a = b := by
 cases a; cases b
 simp only [ByteArray.mk.injEq];exact Array.toList_inj.1 h
theorem Zmk {e f : Zc} (h1 : YE e.aD = true) (h2 : YE f.aD = true) (i1 : 0 ≤ e.aG ∧ e.aG ≤ 999999999) (i2 : 0 ≤ f.aG ∧ f.aG ≤ 999999999) (h : Zd5 e = Zd5 f) : e = f := by
 obtain ⟨a, b⟩ := Zgl (fun hm => Zb1 h1 61 (by decide) 61 hm rfl) (fun hm => Zb1 h2 61 (by decide) 61 hm rfl) h
 cases e; cases f
 simp only at *;rw [J7 a, Zmj i1 i2 (J7 b)]
theorem Zft : ∀ {l m : List Zc}, (∀ e ∈ l, YE e.aD = true ∧ 1 ≤ e.aG ∧ e.aG ≤ 15) → (∀ e ∈ m, YE e.aD = true ∧ 1 ≤ e.aG ∧ e.aG ≤ 15) → J5 l = J5 m → l = m
 | [], [], _, _, _ => rfl
 | [], e :: m, _, _, h => by rw [J6] at h; simp [J5] at h
 | e :: l, [], _, _, h => by rw [J6] at h; simp [J5] at h
 | e :: l, f :: m, hl, hm, h => by
  have a := hl e (mem_cons_self ..);have b := hm f (mem_cons_self ..);rw [J6, J6] at h;obtain ⟨e1, e2⟩ := Zgl (Zd6 a.1) (Zd6 b.1) h;rw [Zmk a.1 b.1 (by omega) (by omega) e1, Zft (fun x hx => hl x (mem_cons_of_mem _ hx)) (fun x hx => hm x (mem_cons_of_mem _ hx)) e2]
theorem IsEnts.one {s : ByteArray} {l m : List Zc} (h : IsEnts s l) (k : IsEnts s m) : l = m :=
 Zft (fun _ he => Xe h.ok he) (fun _ he => Xe k.ok he) (congrArg (fun s : ByteArray => s.data.toList) (h.is.trans k.is.symm))
open Classical in
noncomputable def entsG (s : ByteArray) : Option (List Zc) := if h : ∃ l, IsEnts s l then some h.choose else none
theorem ZcB {s : ByteArray} {l : List Zc} (h : IsEnts s l) : entsG s = some l := by
 have he : ∃ l, IsEnts s l := ⟨l, h⟩;unfold entsG;rw [dif_pos he, he.choose_spec.one h]
theorem Zb2 {s : ByteArray} (h : ∀ l, IsEnts s l → False) : entsG s = none := by
 unfold entsG;rw [dif_neg fun ⟨l, hl⟩ => h l hl]
theorem Zml {s : ByteArray} {l : List Zc} (h : entsG s = some l) : IsEnts s l := by
 by_cases he : ∃ m, IsEnts s m
 ·obtain ⟨m, hm⟩ := he
  rw [ZcB hm] at h;obtain rfl := Option.some.inj h;exact hm
 ·rw [Zb2 fun m hm => he ⟨m, hm⟩] at h; cases h
noncomputable def blobL (st : Za) : List PtrD → Option ByteArray
 | [] => some ByteArray.empty
 | p :: r => bif (Zn st p).size == 0 || (!r.isEmpty && (Zn st p).size != 128) then none else (blobL st r).map (Zn st p ++ ·)
theorem Zhy {st : Za} {p : PtrD} {r : List PtrD} (h : (Zn st p).size = 0 ∨ r ≠ [] ∧ (Zn st p).size ≠ 128) : blobL st (p :: r) = none := by
 show (bif _ then _ else _) = _;have : ((Zn st p).size == 0 || (!r.isEmpty && (Zn st p).size != 128)) = true := by
  rcases h with h | ⟨h, h2⟩
  ·rw [h]; rfl
  ·cases r with
   | nil => exact absurd rfl h
   | cons a b => simp [h2]
 rw [this]; rfl
theorem Zfu {st : Za} {p : PtrD} {r : List PtrD} (h : (Zn st p).size ≠ 0) (h2 : r = [] ∨ (Zn st p).size = 128) : blobL st (p :: r) = (blobL st r).map (Zn st p ++ ·) := by
 show (bif _ then _ else _) = _;have : ((Zn st p).size == 0 || (!r.isEmpty && (Zn st p).size != 128)) = false := by
  rw [beq_eq_false_iff_ne.2 h, Bool.false_or];rcases h2 with h2 | h2
  ·rw [h2]; rfl
  ·rw [h2]; simp
 rw [this]; rfl
theorem Zfv {st : Za} {xs : List PtrD} {i : Nat} {b : ByteArray} (h : blobL st xs = (blobL st (xs.drop i)).map (b ++ ·)) (hi : i < xs.length) (h1 : (Zn st (xs.getD i PtrD.zero)).size ≠ 0) (h2 : i + 1 = xs.length ∨ (Zn st (xs.getD i PtrD.zero)).size = 128) : blobL st xs = (blobL st (xs.drop (i + 1))).map ((b ++ Zn st (xs.getD i PtrD.zero)) ++ ·) := by
 rw [h, Zd3 hi, Zfu h1 (by
  rcases h2 with h2 | h2
  ·exact .inl (List.drop_of_length_le (by omega))
  ·exact .inr h2), Zmd]
theorem Zfw {st : Za} {xs : List PtrD} {i : Nat} {b : ByteArray} (h : blobL st xs = (blobL st (xs.drop i)).map (b ++ ·)) (hi : i < xs.length) (h1 : (Zn st (xs.getD i PtrD.zero)).size = 0 ∨ i + 1 < xs.length ∧ (Zn st (xs.getD i PtrD.zero)).size ≠ 128) : blobL st xs = none := by
 rw [h, Zd3 hi, Zhy (by
  rcases h1 with h1 | ⟨h1, h2⟩
  ·exact .inl h1
  ·exact .inr ⟨fun e => by have := congrArg List.length e; rw [length_drop, length_nil] at this; omega, h2⟩)]; rfl
theorem Zmm {st : Za} {xs : List PtrD} {i : Nat} {b : ByteArray} (h : blobL st xs = (blobL st (xs.drop i)).map (b ++ ·)) (hi : ¬ i < xs.length) : blobL st xs = some b := by
 rw [h, List.drop_of_length_le (by omega)];show some (b ++ ByteArray.empty) = some b;rw [show b ++ ByteArray.empty = b from J7 (by rw [ZC]; exact append_nil _)]
theorem ZiL {st : Za} {xs : List PtrD} : blobL st xs = (blobL st (xs.drop 0)).map ((⟨#[]⟩ : ByteArray) ++ ·) := by
 rw [drop_zero]
 cases blobL st xs with
 | none => rfl
 | some b => exact congrArg some (J7 (by rw [ZC]; rfl)).symm
theorem Zd7 {st : Za} (hr : ∀ p, (Zn st p).size ≤ 128) : ∀ {l : List PtrD} {t : ByteArray}, blobL st l = some t → t.size ≤ 128 * l.length
 | [], t, h => by obtain rfl := Option.some.inj h; exact Nat.zero_le _
 | p :: r, t, h => by
  by_cases hc : (Zn st p).size = 0 ∨ r ≠ [] ∧ (Zn st p).size ≠ 128
  ·rw [Zhy hc] at h; cases h
  ·have h1 : (Zn st p).size ≠ 0 := fun e => hc (.inl e)
   have h2 : r = [] ∨ (Zn st p).size = 128 := by
    by_cases hn : r = []
    ·exact .inl hn
    ·by_cases h3 : (Zn st p).size = 128
     ·exact .inr h3
     ·exact absurd (.inr ⟨hn, h3⟩) hc
   rw [Zfu h1 h2] at h
   cases hb : blobL st r with
   | none => rw [hb] at h; cases h
   | some u =>
    rw [hb] at h;obtain rfl := Option.some.inj h;have := Zd7 hr hb;have := hr p;rw [Zl, length_cons]; omega
noncomputable def V6 (st : Za) (n : Zb) : Option (List Zc) := (leavesF st n.ah).bind fun l => (blobL st l).bind fun s => bif (s.size : Int) == n.am then entsG s else none
theorem Zfx {st : Za} {n : Zb} (h : leavesF st n.ah = none) : V6 st n = none := by unfold V6; rw [h]; rfl
theorem Zfy {st : Za} {n : Zb} {l : List PtrD} (h : leavesF st n.ah = some l) (hb : blobL st l = none) : V6 st n = none := by unfold V6; rw [h]; simp only [Option.bind_some]; rw [hb]; rfl
theorem Zfz {st : Za} {n : Zb} {l : List PtrD} {s : ByteArray} (h : leavesF st n.ah = some l) (hb : blobL st l = some s) (hs : (s.size : Int) ≠ n.am) : V6 st n = none := by
 unfold V6; rw [h]; simp only [Option.bind_some]; rw [hb];show (bif _ then _ else _) = _;rw [beq_eq_false_iff_ne.2 hs]; rfl
theorem Zd8 {st : Za} {n : Zb} {l : List PtrD} {s : ByteArray} (h : leavesF st n.ah = some l) (hb : blobL st l = some s) (hs : (s.size : Int) = n.am) : V6 st n = entsG s := by
 unfold V6; rw [h]; simp only [Option.bind_some]; rw [hb];show (bif _ then _ else _) = _;rw [beq_iff_eq.2 hs]; rfl
theorem ZjC {st : Za} {n : Zb} {es : List Zc} (h : V6 st n = some es) : YP es = true := by
 cases hl : leavesF st n.ah with
 | none => rw [Zfx hl] at h; cases h
 | some l =>
  cases hb : blobL st l with
  | none => rw [Zfy hl hb] at h; cases h
  | some s =>
   by_cases hs : (s.size : Int) = n.am
   ·rw [Zd8 hl hb hs] at h; exact (Zml h).ok
   ·rw [Zfz hl hb hs] at h; cases h
end Go.Proofs.YtfhdmfcfcgbgeaaGreatDoor
namespace Go.Proofs.YtfhdmfcfcgbgeaaGreatDoor.LinkP
set_option maxHeartbeats 4000000
open Go.Proofs.Tryz
open List (append_nil cons_append drop_zero filter_append flatMap_append flatMap_cons flatMap_nil getD_eq_getElem?_getD getElem?_eq_getElem length_append length_cons length_drop length_map length_nil length_set length_singleton length_take map_cons mem_append mem_append_left mem_append_right mem_cons mem_cons_of_mem mem_cons_self mem_flatMap mem_singleton nil_append replicate)
open Option (getD_some)
set_option linter.unusedVariables false
set_option linter.unusedSimpArgs false
set_option maxHeartbeats 1000000
set_option maxRecDepth 100000
section
variable (kd : Nat → List Nat) (isF valid : Nat → Bool)
open Classical in
variable {kd isF valid}
end
section
variable {α : Type} {id : α → Nat} {ch : α → List α} {kd : Nat → List Nat} {isF valid : Nat → Bool} {lk : Nat → Nat}
theorem YN {l : List Nat} {i : Nat} (h : i < l.length) : l.getD i 0 ∈ l := by
 rw [getD_eq_getElem?_getD, getElem?_eq_getElem h]; exact List.getElem_mem _
end
end Go.Proofs.YtfhdmfcfcgbgeaaGreatDoor.LinkP
namespace Go.Proofs.YtfhdmfcfcgbgeaaGreatDoor
set_option maxHeartbeats 4000000
open Go.Proofs.Tryz
open List (append_nil cons_append drop_zero filter_append flatMap_append flatMap_cons flatMap_nil getD_eq_getElem?_getD getElem?_eq_getElem length_append length_cons length_drop length_map length_nil length_set length_singleton length_take map_cons mem_append mem_append_left mem_append_right mem_cons mem_cons_of_mem mem_cons_self mem_flatMap mem_singleton nil_append replicate)
open Option (getD_some)
set_option linter.unusedVariables false
set_option linter.unusedSimpArgs false
set_option maxHeartbeats 1000000
set_option maxRecDepth 100000
open Go.RowKit
structure Zpq where
  aE : ByteArray
  aG : Int
noncomputable def entK (st : Za) (ns : List (Option Zb)) (k : Nat) : List Zc := match ns.getD k none with
 | none => []
 | some n => bif n.aj == 1 then [] else (V6 st n).getD []
def Zgm (ns : List (Option Zb)) (k : Nat) : Bool := (ns.getD k none).isSome
open Classical in
open Classical in
theorem ZfA {st : Za} {ns : List (Option Zb)} {k : Nat} (h : ns.getD k none = none) : entK st ns k = [] := by unfold entK; rw [h]
theorem ZfB {st : Za} {ns : List (Option Zb)} {k : Nat} {n : Zb} (h : ns.getD k none = some n) (hf : (n.aj == 1) = true) : entK st ns k = [] := by unfold entK; rw [h]; show (bif _ then _ else _) = _; rw [hf]; rfl
theorem Zhz {st : Za} {ns : List (Option Zb)} {k : Nat} {n : Zb} {es : List Zc} (h : ns.getD k none = some n) (hf : (n.aj == 1) = false) (hd : V6 st n = some es) : entK st ns k = es := by unfold entK; rw [h]; show (bif _ then _ else _) = _; rw [hf, hd]; rfl
theorem ZhA {ns : List (Option Zb)} {k : Nat} {n : Zb} (h : ns.getD k none = some n) : Zgm ns k = true := by unfold Zgm; rw [h]; rfl
theorem Zkv {ns : List (Option Zb)} {k : Nat} (h : Zgm ns k = true) : k < ns.length := by
 by_cases hk : k < ns.length
 ·exact hk
 ·unfold Zgm at h
  rw [getD_eq_getElem?_getD, List.getElem?_eq_none (by omega)] at h; cases h
theorem Zgn {st : Za} {ns : List (Option Zb)} (k : Nat) : YP (entK st ns k) = true := by
 cases hn : ns.getD k none with
 | none => rw [ZfA hn]; exact Q9 (fun i hi => absurd hi (Nat.not_lt_zero _)) (Nat.zero_le _)
 | some n =>
  cases hf : (n.aj == 1) with
  | true => rw [ZfB hn hf]; exact Q9 (fun i hi => absurd hi (Nat.not_lt_zero _)) (Nat.zero_le _)
  | false =>
   cases hd : V6 st n with
   | some es => rw [Zhz hn hf hd]; exact ZjC hd
   | none =>
    unfold entK; rw [hn]; show YP (bif _ then _ else _) = _; rw [hf, hd];exact Q9 (fun i hi => absurd hi (Nat.not_lt_zero _)) (Nat.zero_le _)
structure Zb3 (ns : List (Option Zb)) : Prop where
  len : ns.length ≤ 16
  ok : ∀ k n, ns.getD k none = some n → n.ok = true
theorem Zbg {st : Za} {t : Ze} {ns : List (Option Zb)} (h : ZeO st t = some ns) : Zb3 ns := by
 obtain ⟨l, hl, ht, hlen⟩ := Zgk h;refine ⟨by have := US hl; omega, fun k n hk => ?_⟩;have hkl : k < l.length := by
  have := Zkv (ZhA hk)
  omega
 have := Zds ht k hkl;rcases this with ⟨_, h2⟩ | ⟨_, m, h2, h3, _⟩
 ·rw [hk] at h2; cases h2
 ·rw [hk] at h2
  obtain rfl := Option.some.inj h2;exact (ZdW h3).1
open Classical in
theorem Zmn (a b : ByteArray) : (a ++ b).data.toList = a.data.toList ++ b.data.toList := by simp
theorem Zkw (s : ByteArray) : QO [] s = ⟨#[]⟩ := rfl
theorem Zbh (nms : List ByteArray) (s : ByteArray) : (QO nms s).data.toList = Go.Lib.join (nms.map (·.data.toList)) s.data.toList := by unfold QO; simp
theorem Zkx (x s : ByteArray) : QO [x] s = x := by
 apply Yx
 rw [Zbh];exact Go.Lib.join_one _ _
theorem ZiM (x : ByteArray) (r : List ByteArray) (y s : ByteArray) : QO ((x :: r) ++ [y]) s = (QO (x :: r) s ++ s) ++ y := by
 apply Yx
 rw [Zmn, Zmn, Zbh, Zbh, List.map_append, map_cons, cons_append, Go.Lib.join_cons, Go.Lib.join_cons];unfold Go.Lib.joinTail;rw [List.map_append, List.flatten_append];simp [List.append_assoc]
theorem ZnC {st : Za} {ns : List (Option Zb)} {k : Nat} {e : Zc} (he : e ∈ entK st ns k) : ((e.aG.toNat : Nat) : Int) = e.aG ∧ e.aD.size ≠ 0 ∧ e.aD.size ≤ 4 := by
 have h := Xe (Zgn (st := st) (ns := ns) k) he;have h2 := ZcA h.1
 omega
theorem ZhB : ∀ a : List UInt8, Op.bytesLess a a = false
 | [] => rfl
 | x :: a => by
  unfold Op.bytesLess;rw [ZhB a]
  simp
theorem Zd9 : ∀ {a b c : List UInt8}, Op.bytesLess a b = true → Op.bytesLess b c = true → Op.bytesLess a c = true
 | _, y, [], _, h2 => by cases y <;> cases h2
 | x, [], _ :: _, h1, _ => by cases x <;> cases h1
 | [], _ :: _, _ :: _, _, _ => rfl
 | x :: a, y :: b, z :: c, h1, h2 => by
  unfold Op.bytesLess at h1 h2 ⊢;simp only [Bool.or_eq_true, Bool.and_eq_true, decide_eq_true_eq, beq_iff_eq] at h1 h2 ⊢;rcases h1 with h1 | ⟨h1, h3⟩
  ·rcases h2 with h2 | ⟨h2, h4⟩
   ·exact .inl (UInt8.lt_trans h1 h2)
   ·exact .inl (h2 ▸ h1)
  ·rcases h2 with h2 | ⟨h2, h4⟩
   ·exact .inl (h1 ▸ h2)
   ·exact .inr ⟨h1.trans h2, Zd9 h3 h4⟩
theorem ZfC {l : List Zc} (h : YP l = true) : ∀ {j i : Nat}, i < j → j < l.length → Op.bytesLess (l.getD i Zc.zero).aD.toList (l.getD j Zc.zero).aD.toList = true
 | 0, i, hi, _ => absurd hi (Nat.not_lt_zero _)
 | j + 1, i, hi, hj => by
  have h1 := (Zhx ((UT h).1 (j + 1) hj)).2.2.2;have h1 := h1.resolve_left (Nat.succ_ne_zero j);rw [Nat.add_sub_cancel] at h1
  by_cases e : i = j
  ·rw [e]; exact h1
  ·exact Zd9 (ZfC h (show i < j by omega) (by omega)) h1
def ZnD (l : List Zc) (s : ByteArray) (o : Option Nat) : Prop := match o with
 | some i => i < l.length ∧ (l.getD i Zc.zero).aD = s
 | none => ∀ i, i < l.length → (l.getD i Zc.zero).aD ≠ s
theorem Zmo {l : List Zc} (h : YP l = true) {s : ByteArray} {o o' : Option Nat} (h1 : ZnD l s o) (h2 : ZnD l s o') : o = o' := by
 cases o with
 | none =>
  cases o' with
  | none => rfl
  | some j => exact absurd h2.2 (h1 j h2.1)
 | some i =>
  cases o' with
  | none => exact absurd h1.2 (h2 i h1.1)
  | some j =>
   have hne : ∀ {a b : Nat}, a < b → b < l.length → (l.getD a Zc.zero).aD = s → (l.getD b Zc.zero).aD = s → False := fun {a b} hab hb ha hb2 => by
    have := ZfC h hab hb;rw [ha, hb2, ZhB] at this; cases this
   rcases Nat.lt_trichotomy i j with hij | hij | hij
   ·exact (hne hij h2.1 h1.2 h2.2).elim
   ·rw [hij]
   ·exact (hne hij h1.1 h2.2 h1.2).elim
open Classical in
noncomputable def QD (l : List Zc) (s : ByteArray) : Option Nat := if h : ∃ i, i < l.length ∧ (l.getD i Zc.zero).aD = s then some (Classical.choose h) else none
theorem Zb4 (l : List Zc) (s : ByteArray) : ZnD l s (QD l s) := by
 unfold QD
 split
 ·rename_i h
  exact Classical.choose_spec h
 ·rename_i h
  exact fun i hi e => h ⟨i, hi, e⟩
theorem Zea {l : List Zc} (h : YP l = true) {s : ByteArray} {o : Option Nat} (h1 : ZnD l s o) : QD l s = o := Zmo h (Zb4 l s) h1
noncomputable def findN (st : Za) (ns : List (Option Zb)) : List ByteArray → Nat → Option Nat
 | [], k => some k
 | s :: r, k => match QD (entK st ns k) s with
  | none => none
  | some i => findN st ns r ((entK st ns k).getD i Zc.zero).aG.toNat
theorem UU (st : Za) (ns : List (Option Zb)) (k : Nat) : findN st ns [] k = some k := rfl
theorem UV {st : Za} {ns : List (Option Zb)} {s : ByteArray} {r : List ByteArray} {k : Nat} (h : QD (entK st ns k) s = none) : findN st ns (s :: r) k = none := by unfold findN; rw [h]
theorem UW {st : Za} {ns : List (Option Zb)} {s : ByteArray} {r : List ByteArray} {k i : Nat} (h : QD (entK st ns k) s = some i) : findN st ns (s :: r) k = findN st ns r ((entK st ns k).getD i Zc.zero).aG.toNat := by
 conv => lhs; unfold findN
 rw [h]
def wg : Nat → Nat
 | 0 => 1
 | n + 1 => 1 + 4 * wg n
theorem ZaM {f g : PtrD → List PtrD} : ∀ {l : List PtrD}, (∀ q ∈ l, f q = g q) → l.flatMap f = l.flatMap g
 | [], _ => rfl
 | p :: r, h => by rw [flatMap_cons, flatMap_cons, h p (mem_cons_self ..), ZaM fun q hq => h q (mem_cons_of_mem _ hq)]
theorem Rd.dropP {α : Type} {enc : α → List Value} {size : Nat} {w : World} {g off n : Nat} {xs : List α} (h : Rd enc size w (some ⟨g, off, none⟩) n xs) {k : Nat} (hk : k ≤ n) : Rd enc size w (some ⟨g, off + k * size, none⟩) (n - k) (xs.drop k) := by
 have hl := h.len;refine ⟨by rw [length_drop]; omega, fun i hi => ?_⟩;rw [length_drop] at hi;obtain ⟨b, o, x, hx, ha, hb, hr⟩ := h.at_ (k + i) (by omega);simp only [Option.some.injEq, Addr.mk.injEq, and_true] at ha;obtain ⟨rfl, rfl⟩ := ha;refine ⟨g, off + k * size, x, by rw [List.getElem?_drop]; exact hx, rfl, hb, ?_⟩;rw [Nat.add_assoc, ← Nat.add_mul];exact hr
noncomputable def Zmp (st : Za) (p : PtrD) : List PtrD := allL st p.aq.toNat p
theorem Zdt {st : Za} {n : Nat} {p : PtrD} (h : Wf st n p) : Zmp st p = allL st n p := by
 unfold Zmp
 cases hh : p.hole with
 | true => rw [ZW hh, ZW hh]
 | false => rw [h.level hh]; rfl
def mz : List PtrD → Nat
 | [] => 0
 | p :: r => (bif p.hole then 1 else wg p.aq.toNat) + mz r
theorem Zmq : ∀ n, 1 ≤ wg n
 | 0 => Nat.le_refl _
 | n + 1 => by show 1 ≤ 1 + 4 * wg n; omega
theorem ZiN : ∀ a b : List PtrD, mz (a ++ b) = mz a + mz b
 | [], b => by simp [mz]
 | p :: r, b => by
  show _ + mz (r ++ b) = _ + mz r + mz b;rw [ZiN r b]; omega
theorem Zgo {st : Za} {n : Nat} : ∀ {l : List PtrD}, (∀ q ∈ l, Wf st n q) → mz l ≤ l.length * wg n
 | [], _ => Nat.zero_le _
 | p :: r, h => by
  have ih := Zgo fun q hq => h q (mem_cons_of_mem _ hq)
  have hw := h p (mem_cons_self ..);have h1 : (bif p.hole then 1 else wg p.aq.toNat) ≤ wg n := by
   cases hh : p.hole with
   | true => exact Zmq n
   | false => rw [hw.level hh]; exact Nat.le_refl _
  show (bif p.hole then 1 else wg p.aq.toNat) + mz r ≤ (r.length + 1) * wg n;rw [Nat.succ_mul]; omega
theorem Zmr : ∀ l : List PtrD, l.length ≤ mz l
 | [] => Nat.le_refl _
 | p :: r => by
  have := Zmr r;have h1 : 1 ≤ (bif p.hole then 1 else wg p.aq.toNat) := by
   cases p.hole
   ·exact Zmq _
   ·exact Nat.le_refl _
  show r.length + 1 ≤ _ + mz r
  omega
structure QW (st : Za) (A os ts : List PtrD) : Prop where
  sum : os ++ ts.flatMap (Zmp st) = A
  wf : ∀ p ∈ ts, ∃ n, n ≤ 2 ∧ Wf st n p
  room : os.length + mz ts ≤ 21
theorem QW.start {st : Za} {n : Nat} {p : PtrD} (hn : n ≤ 2) (h : Wf st n p) : QW st (allL st n p) [] [p] := by
 refine ⟨?_, fun q hq => ⟨n, hn, by rw [mem_singleton.1 hq]; exact h⟩, ?_⟩
 ·rw [nil_append, flatMap_cons, flatMap_nil, append_nil, Zdt h]
 ·have h1 := Zgo (l := [p]) (n := n) fun q hq => by rw [mem_singleton.1 hq]; exact h
  have h2 : wg n ≤ 21 := by rcases (by omega : n = 0 ∨ n = 1 ∨ n = 2) with e | e | e <;> rw [e] <;> decide
  rw [length_singleton, Nat.one_mul] at h1;show 0 + mz [p] ≤ 21
  omega
theorem QW.done {st : Za} {A os : List PtrD} (h : QW st A os []) : os = A := by
 have := h.sum
 rwa [flatMap_nil, append_nil] at this
section
variable {st : Za} {A os r : List PtrD} {p : PtrD}
theorem QW.tail (h : QW st A os (p :: r)) : ∀ q ∈ ([] ++ r : List PtrD), ∃ n, n ≤ 2 ∧ Wf st n q := fun q hq => h.wf q (mem_cons_of_mem _ (by simpa using hq))
theorem QW.hole (h : QW st A os (p :: r)) (hh : p.hole = true) : QW st A os ([] ++ r) ∧ mz ([] ++ r) < mz (p :: r) := by
 have h1 := h.sum;have h2 := h.room;have e : mz (p :: r) = 1 + mz r := by show (bif p.hole then 1 else wg p.aq.toNat) + mz r = _; rw [hh]; rfl
 refine ⟨⟨?_, h.tail, ?_⟩, ?_⟩
 ·rw [nil_append, ← h1, flatMap_cons, show Zmp st p = [] from ZW hh _, nil_append]
 ·rw [nil_append]; omega
 ·rw [nil_append]; omega
theorem QW.leaf (h : QW st A os (p :: r)) (hh : p.hole = false) (hl : ¬ 0 < p.aq) : QW st A (os ++ [p]) ([] ++ r) ∧ mz ([] ++ r) < mz (p :: r) := by
 have h1 := h.sum;have h2 := h.room;obtain ⟨n, hn, hw⟩ := h.wf p (mem_cons_self ..);have hl2 := hw.level hh;obtain rfl : n = 0 := by omega
 have e : mz (p :: r) = 1 + mz r := by show (bif p.hole then 1 else wg p.aq.toNat) + mz r = _; rw [hh, hl2]; rfl
 refine ⟨⟨?_, h.tail, ?_⟩, ?_⟩
 ·rw [nil_append, ← h1, flatMap_cons, Zdt hw, QB hh, List.append_assoc]
 ·rw [nil_append, length_append, length_singleton]; omega
 ·rw [nil_append]; omega
theorem QW.below (h : QW st A os (p :: r)) (hh : p.hole = false) (hl : 0 < p.aq) : ∃ n l, n + 1 ≤ 2 ∧ p.aq = ((n + 1 : Nat) : Int) ∧ kidsS st p p.aq = some l ∧ kids st p ((n + 1 : Nat) : Int) = some l ∧ ∀ q ∈ l, Wf st n q := by
 obtain ⟨n, hn, hw⟩ := h.wf p (mem_cons_self ..);have hl2 := hw.level hh
 match n, hw, hl2, hn with
 | 0, _, hl2, _ => omega
 | n + 1, hw, hl2, hn =>
  obtain ⟨hp, hb, l, hk, hq⟩ := hw;exact ⟨n, l, hn, hl2, by rw [JZ hp hb, hl2]; exact hk, hk, hq⟩
theorem QW.kids (h : QW st A os (p :: r)) (hh : p.hole = false) (hl : 0 < p.aq) {l : List PtrD} (hk : kidsS st p p.aq = some l) : QW st A (os ++ [p]) (([] ++ l) ++ ([] ++ r)) ∧ mz (([] ++ l) ++ ([] ++ r)) < mz (p :: r) := by
 obtain ⟨n, m, hn, hl2, hk2, hk3, hq⟩ := h.below hh hl;rw [hk] at hk2;obtain rfl := Option.some.inj hk2;have h1 := h.sum;have h2 := h.room;have hw : Wf st (n + 1) p := by
  obtain ⟨k, _, hw⟩ := h.wf p (mem_cons_self ..);have := hw.level hh;obtain rfl : k = n + 1 := by omega
  exact hw
 have e : mz (p :: r) = (1 + 4 * wg n) + mz r := by show (bif p.hole then 1 else wg p.aq.toNat) + mz r = _; rw [hh, hl2]; rfl
 have hm := Zgo hq;rw [VX hk3] at hm;refine ⟨⟨?_, fun q hx => ?_, ?_⟩, ?_⟩
 ·have e2 : l.flatMap (Zmp st) = l.flatMap (allL st n) := ZaM fun q hx => Zdt (hq q hx)
  rw [← h1, flatMap_cons, Zdt hw, Y0 hh hk3];simp [flatMap_append, e2]
 ·rw [nil_append, nil_append] at hx
  rcases mem_append.1 hx with hx | hx
  ·exact ⟨n, by omega, hq q hx⟩
  ·exact h.wf q (mem_cons_of_mem _ hx)
 ·rw [nil_append, nil_append, ZiN, length_append, length_singleton]; omega
 ·rw [nil_append, nil_append, ZiN]; omega
end
section
variable {P : Program} {o : Oper} {a : Act} {w : World} {e : TypeId}
def loA (g off k size cap : Nat) : Option Addr := some ⟨g, if cap = k then off else off + k * size, none⟩
theorem Ur {t : TypeId} {x y : Operand} (ho : o.op = .slice t x (some y) none none) {g off n cap : Nat} (hx : a.eval x = .slice (some ⟨g, off, none⟩) n cap) {kk : IntKind} {m : Int} (hy : a.eval y = .int kk m) {size : Nat} (hu : Yv P t = some (e, size)) {k : Nat} (hm : m = (k : Int)) (hk : k ≤ n) (hc : n ≤ cap) : Yl P w o a (.slice (loA g off k size cap) (n - k) (cap - k)) := by
 by_cases h : k < cap
 ·have e1 : loA g off k size cap = some ⟨g, off + k * size, none⟩ := by unfold loA; rw [if_neg (by omega)]
  rw [e1];exact ZdN ho hx hy hu hm hk h
 ·have e1 : loA g off k size cap = some ⟨g, off, none⟩ := by unfold loA; rw [if_pos (by omega)]
  rw [e1];unfold Yv at hu
  split at hu
  ·rename_i e' hu'
   split at hu
   ·rename_i inf hq
    subst hm;obtain rfl : cap = k := by omega
    obtain rfl : n = cap := by omega
    unfold Yl execOp;simp only [ho, hx, hy, Option.map_some, Option.map_none, Instr.sliceAt, Instr.slice, Sem.run_bind, run_underlying hu' w, Result.andThen_ok];simp [Instr.slice, Instr.sliceBounds, Instr.sliceBound, asIntOf, go_sem, run_underlying hu' w, sizeOf, typeInfo, hq]
   ·cases hu
  ·cases hu
theorem Zgp {α : Type} {enc : α → List Value} {size g off n k cap : Nat} {xs : List α} (h : Rd enc size w (some ⟨g, off, none⟩) n xs) (hk : k ≤ n) (hc : n ≤ cap) : Rd enc size w (loA g off k size cap) (n - k) (xs.drop k) := by
 have hl := h.len
 by_cases e : k < cap
 ·rw [show loA g off k size cap = some ⟨g, off + k * size, none⟩ by unfold loA; rw [if_neg (by omega)]]
  exact h.dropP hk
 ·rw [List.drop_eq_nil_of_le (by omega), show n - k = 0 by omega]
  exact Zak _ _ _ _
end
theorem Zky (a0 : Option Addr) (c0 : Nat) (a1 : Option Addr) (c1 : Nat) (a2 : Option Addr) (c2 : Nat) (a4 : Option Addr) (c4 : Nat) (a6 : Option Addr) (c6 : Nat) (st : Za) (t : Ze) (w0 : World) (hR : Rd Zu 1 w0 a0 st.ac.length st.ac) (hrow : Xv st) (hwf : Wf st (depthN t.ai) t.af) : Calls prog 158 #[sV a0 c0 a1 c1 a2 c2 a4 c4 a6 c6 st, tV t] w0 fun e w' => ∃ ao cp, e = .returned (.slice ao (allL st (depthN t.ai) t.af).length cp) ∧ St w0 [Zg PtrD.cells 5 24 (.slice ao (allL st (depthN t.ai) t.af).length cp) (allL st (depthN t.ai) t.af)] w' := by
 have HR := Bx.mk hR; clear hR;have E := Bx.mk (St.start w0);refine ent func158 ntmps158 ?_;refine xsr ?_;refine ybx E ?_;clear E;intro w1 b1 E;refine ybx E ?_;clear E;intro w2 b2 E;refine xr 1 rfl<|xne<|xsr ?_;refine yem 24 5 E ?_;clear E;intro w3 b3 E;refine xr 1 rfl<|xne<|xsr<|Xf 0 rfl<|Xw 0 5 E rfl rfl ?_;refine ybs PtrD.cells 24 5 [t.af] E ?_;clear E;intro b4 w4 E;refine xr 1 rfl<|xne<|xsq<|xbl ?_;replace E := Bx.mk (E.o.nilRow PtrD.cells 5 24 (some ⟨b3, 0, none⟩));replace E:=E.pks [1,1];intro a J;refine Zt (ι := Nat) (fun n a w => ∃ (ao : Option Addr) (cp : Nat) (os : List PtrD) (at_ : Option Addr) (ct : Nat) (ts : List PtrD), (QW st (allL st (depthN t.ai) t.af) os ts ∧ mz ts = n) ∧ Fr 47 a [(0, sV a0 c0 a1 c1 a2 c2 a4 c4 a6 c6 st), (1, tV t), (2, .pointer (some ⟨b1, 0, none⟩)), (3, .pointer (some ⟨b2, 0, none⟩)), (4, .slice none 0 0), (5, .slice ao os.length cp), (6, .slice at_ ts.length ct)] ∧ St w0 ([Zg PtrD.cells 5 24 (.slice ao os.length cp) os, Zg PtrD.cells 5 24 (.slice at_ ts.length ct) ts, boxA b2 7 26 (tV t), boxA b1 8 44 (sV a0 c0 a1 c1 a2 c2 a4 c4 a6 c6 st)]) w) (fun n => n) (mz [t.af]) ⟨_, _, [], _, _, [t.af], ⟨QW.start (YV _) hwf, rfl⟩, J.ls _, E.o⟩ ?_;clear J E; clear a;rintro n a w5 ⟨ao, cp, os, at_, ct, ts, ⟨hall, hmz⟩, J, E⟩;replace E := Bx.mk E;have hroom := hall.room; have htl := Zmr ts;revert a;refine xsq<|xsr<|xr 1 rfl<|xy rfl (vn 24 5 rfl)<|xr 1 rfl<|xne<|xcd 16 rfl (fun _ dcc1=>?_) fun _ dcc1=>?_
 refine xct rfl<|xsk<|xet<|xbl<|xsq ?_;obtain ⟨p, r, rfl⟩ : ∃ p r, ts = p :: r := by cases ts with | nil => exact absurd (by assumption : (0 : Int) < ((([] : List PtrD).length : Nat) : Int)) (by simp) | cons p r => exact ⟨p, r, rfl⟩
 have hrl : (p :: r).length = r.length + 1 := rfl;obtain ⟨g5, rfl, _, _, _, _⟩ := E.o.rowOpen 1 rfl (by omega);have hcap := E.o.capLe 1 rfl;refine xrl<|xr 1 rfl<|xy rfl (vx 24 0 5 rfl)<|xy rfl (fun a J=>ylr (cs := pL p) rfl (J.ev rfl) (E.o.elem PtrD.cells_len 1 rfl (show (p :: r)[0]? = some _ from rfl))) ?_;refine yal z5 E ?_;clear E;intro w6 b6 E;refine yst E 0 ?_;clear E;intro w7 E;replace E:=E.nm;refine xne<|xsr ?_;refine yem 24 5 E ?_;clear E;intro w8 b7 E;refine xr 1 rfl<|xy rfl (fun a J=>Ur (e := 24) (size := 5) (k := 1) rfl (J.ev rfl) (J.ev rfl) (by kernel_rfl) rfl (by omega) hcap) ?_;replace E := Bx.mk (E.o.nilRow PtrD.cells 5 24 (some ⟨b7, 0, none⟩));intro a J;refine XE rfl J rfl rfl rfl (J.ev rfl) (J.ev rfl) Xu PtrD.cells_len E.o 0 (xs := []) rfl (ys := r) (Zgp (k := 1) (St.rdOf E.o PtrD.cells_len 3 rfl) (by omega) hcap) (Zz _) (by unfold maxLen; (try simp only [length_append, length_cons, length_nil, nil_append, length_map]); omega) (by (try simp only [length_append, length_cons, length_nil, nil_append, length_map]); omega) ?_; clear J E a; intro ao9 cp10 w9 a J E; replace E := Bx.mk E;revert a;refine xr 1 rfl<|xne<|xsq<|xsr<|Xw 1 5 E rfl rfl ?_;refine ycB (ZA p _) func26 E ?_;clear E;intro w10 E;refine xne<|xcs 25 rfl (fun cc2=>?_) fun cc2=>?_;have hph := cc2;refine xct rfl<|xex<|xtx<|xbh<|xet ?_;have hz11 : ([] : List PtrD).length + r.length = (([]) ++ r).length := by simp only [length_append, length_nil, length_cons]
 intro a J;rw [hz11] at E J;obtain ⟨hnew, hlt⟩ := hall.hole hph;replace E:=E.pks [5,5,2,4];exact ⟨_, ⟨_, _, _, _, _, _, ⟨hnew, rfl⟩, J.ls _, (E.o.erS [5,4])⟩, (by omega)⟩;have hph := cc2;refine xcf rfl<|xsk<|xet<|xsr<|xr 1 rfl<|Xw 1 5 E rfl rfl ?_;refine ybs PtrD.cells 24 5 [p] E ?_;clear E;intro b12 w11 E;refine yap Xu PtrD.cells_len E 3 (St.rdN E.o PtrD.cells_len 0 rfl) (Zz _) ?_;clear E;intro ao13 cp14 w12 E;refine xr 1 rfl<|xne<|xsr<|Xf 4 rfl<|Xl 2 E rfl rfl<|xr 1 rfl<|xne<|xcd 32 rfl (fun _ dcc3=>?_) fun _ dcc3=>?_;refine xct rfl<|xsr<|Xw 6 8 E rfl rfl<|Xw 2 5 E rfl rfl<|Xf 4 rfl<|Xl 2 E rfl rfl ?_;refine yc (Up a0 c0 a1 c1 a2 c2 a4 c4 a6 c6 st p p.aq _ (HR.out.below E.o.bel) hrow) func165 ?_;rintro _ w13 (⟨l15, hk15, ao15, cp15, rfl, hs1⟩ | ⟨hk15, ao15, nn15, cp15, rfl, hb⟩);have hll15 := Qd hk15;refine ⟨_, rfl, ?_⟩; replace E := E.ad hs1;clear hs1;refine xr 5 rfl<|xne<|xrl ?_;refine yem 24 5 E ?_;clear E;intro w14 b16 E;refine xr 1 rfl ?_;replace E := Bx.mk (E.o.nilRow PtrD.cells 5 24 (some ⟨b16, 0, none⟩));refine yap Xu PtrD.cells_len E 0 (St.rdOf E.o PtrD.cells_len 1 rfl) (Zz _) ?_;clear E;intro ao18 cp19 w15 E;refine xr 1 rfl ?_;refine yap Xu PtrD.cells_len E 0 (St.rdN E.o PtrD.cells_len 3 rfl) (Zz _) ?_;clear E;intro ao20 cp21 w16 E;refine xr 1 rfl<|xni<|xeb<|xet ?_;have hz22 : os.length + ([p]).length = (os ++ ([p])).length := by simp only [length_append, length_nil, length_cons]
 intro a J;rw [hz22] at E J;have hz23 : (([] : List PtrD) ++ l15).length + (([] : List PtrD) ++ r).length = ((([]) ++ l15) ++ (([]) ++ r)).length := by simp only [length_append, length_nil, length_cons]
 rw [hz23] at E J;obtain ⟨hnew, hlt⟩ := hall.kids hph (by omega) hk15;replace E:=E.pks [8,8,2,7];exact ⟨_, ⟨_, _, _, _, _, _, ⟨hnew, rfl⟩, J.ls _, (E.o.erS [8,7,6,5,4])⟩, (by omega)⟩;obtain ⟨_, _, _, _, hks, _⟩ := hall.below hph (by omega); rw [hks] at hk15; cases hk15;refine xcf rfl<|xsk<|xeb<|xet ?_;have hz24 : os.length + ([p]).length = (os ++ ([p])).length := by simp only [length_append, length_nil, length_cons]
 intro a J;rw [hz24] at E J;have hz25 : ([] : List PtrD).length + r.length = (([]) ++ r).length := by simp only [length_append, length_nil, length_cons]
 rw [hz25] at E J;obtain ⟨hnew, hlt⟩ := hall.leaf hph (by omega);replace E:=E.pks [6,6,3,5];exact ⟨_, ⟨_, _, _, _, _, _, ⟨hnew, rfl⟩, J.ls _, (E.o.erS [6,5,4])⟩, (by omega)⟩;refine xcf rfl<|xex<|xtx<|xtx<|xbh<|xet<|xsr<|xr 2 rfl<|xne<|xre<|xb1 results158 rfl ?_;obtain rfl : ts = [] := by cases ts with | nil => rfl | cons p r => exact absurd (by assumption : ¬ (0 : Int) < (((p :: r).length : Nat) : Int)) (by simp)
 have hA := hall.done; subst hA;exact ⟨_, _, rfl, (E.o.erS [3,2,1])⟩
theorem Zkz {n : Zb} (h : n.ok = true) : ZY n ≠ ByteArray.empty := fun e => by
 have := (YM h).is;rw [e] at this;have h2 : (Z3 (Xs n)).data.toList = [] := by rw [this]; rfl
 exact Zdq _ _ h2
theorem Zeb {st : Za} {p : PtrD} {o : Option Zb} {n : Zb} (h : Zhv st p o) (hn : n.ok = true) (hb : ZY n = Zn st p) : o = some n := by
 rcases h with ⟨hh, _⟩ | ⟨_, m, rfl, hm, _⟩
 ·rw [Xd hh] at hb; exact absurd hb (Zkz hn)
 ·rw [Zau hn hb] at hm; exact hm.symm
theorem Zec {st : Za} {p : PtrD} {o : Option Zb} (h : Zhv st p o) (hn : ∀ n : Zb, n.ok = true → ZY n = Zn st p → False) : o = none := by
 rcases h with ⟨_, rfl⟩ | ⟨_, m, rfl, hm, _⟩
 ·rfl
 ·have := ZdW hm; exact (hn m this.1 this.2).elim
theorem Zc6 : UD prog 147 153 2 24 := by
 obtain ⟨i0, hi, hz0, hz1, hz2⟩ := info_parts (P := prog) (e := 153) (z := .agg #[.string ByteArray.empty, .int .i64 0]) (size := 2) (bytes := 24) (by kernel_rfl);exact ⟨Tryz.underlying147, ⟨i0, _, hi, hz0, hz1, hz2, rfl⟩, by decide⟩
theorem XB (xs : List Zc) : ∀ u ∈ xs.flatMap Zc.cells, u.oneCell' = true := by
 intro u hu;obtain ⟨x, _, hx⟩ := mem_flatMap.1 hu;simp only [Zc.cells, mem_cons, List.not_mem_nil, or_false] at hx;rcases hx with rfl | rfl <;> rfl
section
variable {P : Program} {w : World} {o : Oper} {a : Act} {t t' : TypeId} {x y : Operand}
theorem ZnE (ho : o.op = .binOp .geq t x y t') {m n : ByteArray} (hx : a.eval x = .string m) (hy : a.eval y = .string n) : Yl P w o a (.bool !(Op.bytesLess m.toList n.toList)) := by simp [Yl, execOp, ho, hx, hy, eqGuard, binOp, Op.stringOp]
end
theorem UX {l : List Zc} {i : Nat} (h : i < l.length) : l.getD i Zc.zero ∈ l := by
 rw [getD_eq_getElem?_getD, getElem?_eq_getElem h]; exact List.getElem_mem _
def Zb5 (l : List Zc) : Prop := ∀ e ∈ l, e.aD.size ≤ 1000000
theorem Zb5.at_ {l : List Zc} (h : Zb5 l) (i : Nat) : (l.getD i Zc.zero).aD.size ≤ 1000000 := by
 by_cases hi : i < l.length
 ·exact h _ (UX hi)
 ·rw [getD_eq_getElem?_getD, List.getElem?_eq_none (by omega)]; exact Nat.zero_le _
theorem ZiO {l : List Zc} (h : ∀ j, j < l.length → Qm l j = true) : YP l = decide ((l.length : Int) ≤ 12) := by
 unfold YP;rw [decide_eq_true h, Bool.true_and]
 by_cases hl : l.length ≤ 12
 ·rw [decide_eq_true hl, decide_eq_true (by omega)]
 ·rw [decide_eq_false hl, decide_eq_false (by omega)]
theorem ZhC {l : List Zc} {i : Nat} (h : ∀ j, j < i → Qm l j = true) (ha : Qm l i = true) : ∀ j, j < i + 1 → Qm l j = true := fun j hj => by
 by_cases e : j = i
 ·rw [e]; exact ha
 ·exact h j (by omega)
theorem Zb6 (ao : Option Addr) (cp : Nat) (es : List Zc) (w0 : World) (hfit : Zb5 es) (hlen : es.length ≤ 1000000) (hr : Rd Zc.cells 2 w0 ao es.length es) : Calls prog 198 #[.slice ao es.length cp] w0 fun e w' => e = .returned (.bool (YP es)) ∧ Below w0.heap.size w0 w' := by
 obtain ⟨g, o, r0⟩ := hr.opn; have RE := Bx.mk r0; clear r0 hr;have E := Bx.mk (St.start w0);refine ent func198 ntmps198 ?_;refine xsr<|xr 1 rfl<|xne<|xsq<|xsr<|xr 1 rfl<|xne<|xbl ?_;intro a J;refine Zt (ι := Nat) (fun i a w => (i ≤ es.length ∧ ∀ j, j < i → Qm es j = true) ∧ Fr 47 a [(0, .slice ao es.length cp), (3, .int .i64 (i : Int))] ∧ St w0 ([]) w) (fun i => es.length - i) 0 ⟨⟨Nat.zero_le _, fun j hj => absurd hj (Nat.not_lt_zero _)⟩, J.ls _, E.o⟩ ?_;clear J E; clear a;rintro i a w1 ⟨⟨hi, hall⟩, J, E⟩;replace E := Bx.mk E;revert a;refine xsq<|xsr<|xr 2 rfl<|xy rfl (vn 153 2 rfl)<|xr 1 rfl<|xne<|xcd 7 rfl (fun _ dcc1=>?_) fun _ dcc1=>?_
 refine xct rfl<|xsk<|xet<|xsq<|xbl<|xsq ?_;intro a J;refine Yf (by kernel_rfl) (by kernel_rfl) E.o ?_;revert a;refine xqr 2 rfl<|xq rfl (fun E=>vxr 153 i 2 rfl (RE.out.ao i (by omega)))<|Qf 0 rfl<|xq rfl (fun E a J=>ylo (v := .string ((es.getD i Zc.zero).aD)) rfl (J.ev rfl) (RE.out.elem E (Zi (xs := es) (j := i) (d := Zc.zero) (by omega)) 0 _ rfl)) ?_;refine yq (fun _ E => VO ((es.getD i Zc.zero).aD) _ (Nat.le_trans (hfit.at_ _) (by decide))) func130 ?_;refine xqr 2 rfl<|xcs 17 rfl (fun cc2=>?_) fun cc2=>?_;refine xqr 26 rfl ?_;intro a J;refine wpQuiet_nil ?_; intro w2 E; replace E := Bx.mk E;revert a;refine xet<|xct rfl<|xsr<|xr 1 rfl<|xne<|xre<|xbr<|xtr<|xtr<|xbr<|xtr<|xb1 results198 rfl ?_;exact ⟨by rw [Zcz (i := i) (by omega) (ZiJ (by simpa using cc2))] <;> rfl, E.o.bel⟩;refine xqr 2 rfl<|xq rfl (fun E=>vxr 153 i 2 rfl (RE.out.ao i (by omega)))<|Qf 1 rfl<|xq rfl (fun E a J=>ylo (v := .int .i64 ((es.getD i Zc.zero).aG)) rfl (J.ev rfl) (RE.out.elem E (Zi (xs := es) (j := i) (d := Zc.zero) (by omega)) 1 _ rfl)) ?_;refine yqg (fun _ E => ((Yb ((es.getD i Zc.zero).aG) 1 15 _).mono fun _ _ h => ⟨h.1, h.2 ▸ Below.refl _ _⟩)) func25 ?_;refine xqr 3 rfl<|xcs 26 rfl (fun cc3=>?_) fun cc3=>?_;refine xqr 17 rfl ?_;intro a J;refine wpQuiet_nil ?_; intro w3 E; replace E := Bx.mk E;revert a;refine xet<|xct rfl<|xsr<|xr 1 rfl<|xne<|xre<|xbr<|xtr<|xtr<|xbr<|xtr<|xb1 results198 rfl ?_;exact ⟨by rw [Zcz (i := i) (by omega) (Zmi (by simpa using cc3))] <;> rfl, E.o.bel⟩;refine xqr 3 rfl<|xcd 29 rfl (fun _ dcc4=>?_) fun _ dcc4=>?_;refine xqr 2 rfl<|xq rfl (fun E a J=>ZO (r := ((i - 1 : Nat) : Int)) rfl (J.ev rfl) (J.ev rfl) ((Yi (by omega)).trans (by omega)))<|xq rfl (fun E=>vxr 153 (i - 1) 2 rfl (RE.out.ao (i - 1) (by omega)))<|Qf 0 rfl<|xq rfl (fun E a J=>ylo (v := .string ((es.getD (i - 1) Zc.zero).aD)) rfl (J.ev rfl) (RE.out.elem E (Zi (xs := es) (j := (i - 1)) (d := Zc.zero) (by omega)) 0 _ rfl))<|xqr 2 rfl<|xq rfl (fun E=>vxr 153 i 2 rfl (RE.out.ao i (by omega)))<|Qf 0 rfl<|xq rfl (fun E a J=>ylo (v := .string ((es.getD i Zc.zero).aD)) rfl (J.ev rfl) (RE.out.elem E (Zi (xs := es) (j := i) (d := Zc.zero) (by omega)) 0 _ rfl))<|xq rfl (fun E a J=>ZnE rfl (J.ev rfl) (J.ev rfl))<|xqr 2 rfl ?_;intro a J;refine wpQuiet_nil ?_; intro w4 E; replace E := Bx.mk E;revert a;refine xet<|xcs 43 rfl (fun cc5=>?_) fun cc5=>?_
 refine xct rfl<|xsr<|xr 1 rfl<|xne<|xre<|xbr<|xtr<|xtr<|xbr<|xtr<|xb1 results198 rfl ?_;exact ⟨by rw [Zcz (i := i) (by omega) (ZiK (by omega) (by simpa using cc5))] <;> rfl, E.o.bel⟩;refine xcf rfl<|xsk<|xeb<|xet<|xrl<|xr 1 rfl<|xy rfl (vad rfl)<|xr 1 rfl<|xne ?_;have hat : Qm es i = true := Zfs (by simpa using cc2) (by simpa using cc3) (.inr (by simpa using cc5));intro a J;exact ⟨(i + 1), ⟨⟨by omega, ZhC hall hat⟩, J.less _ ⟨rfl, rfl, trivial⟩, E.o⟩, (by omega)⟩;refine xqr 14 rfl ?_;intro a J;refine wpQuiet_nil ?_; intro w5 E; replace E := Bx.mk E;revert a;refine xet<|xcf rfl<|xsk<|xeb<|xet<|xrl<|xr 1 rfl<|xy rfl (vad rfl)<|xr 1 rfl<|xne ?_;have hat : Qm es i = true := Zfs (by simpa using cc2) (by simpa using cc3) (.inl (by omega));intro a J;exact ⟨(i + 1), ⟨⟨by omega, ZhC hall hat⟩, J.less _ ⟨rfl, rfl, trivial⟩, E.o⟩, (by omega)⟩;refine xcf rfl<|xex<|xtx<|xtx<|xbh<|xet<|xsr<|xr 1 rfl<|xy rfl (vn 153 2 rfl)<|xr 2 rfl<|xne<|xre<|xb1 results198 rfl ?_;exact ⟨by rw [ZiO fun j hj => hall j (by omega)] <;> rfl, E.o.bel⟩
theorem ZiP (l : List Zc) (e : Zc) : QC (l ++ [e]) = (((QC l ++ e.aD) ++ ⟨#[61]⟩) ++ ZI e.aG) ++ ⟨#[59]⟩ := by
 refine J7 ?_;rw [Zbf, Zku];simp only [ZC, Zbf];unfold J5 Zd5
 simp
theorem Zed {l : List Zc} {k : Nat} (h : k < l.length) : QC (l.take (k + 1)) = (((QC (l.take k) ++ (l.getD k Zc.zero).aD) ++ ⟨#[61]⟩) ++ ZI (l.getD k Zc.zero).aG) ++ ⟨#[59]⟩ := by
 rw [List.take_succ_eq_append_getElem h, ZiP, getD_eq_getElem?_getD, getElem?_eq_getElem h]; rfl
theorem ZiQ (ao : Option Addr) (cp : Nat) (es : List Zc) (w0 : World) (hok : YP es = true) (hr : Rd Zc.cells 2 w0 ao es.length es) : Calls prog 153 #[.slice ao es.length cp] w0 fun e w' => e = .returned (.string (QC es)) ∧ Below w0.heap.size w0 w' := by
 obtain ⟨g, o, r0⟩ := hr.opn; have RE := Bx.mk r0; clear r0 hr; have h12 := (UT hok).2;have E := Bx.mk (St.start w0);refine ent func153 ntmps153 ?_;refine xsr<|xr 1 rfl<|xne<|xsr<|xr 1 rfl<|xne<|xsq<|xsr<|xr 1 rfl<|xne<|xbl ?_;intro a J;refine Zt (ι := Nat) (fun k a w => ∃ (tx : ByteArray), (k ≤ es.length ∧ tx = QC (es.take k) ∧ tx.size ≤ 15 * k) ∧ Fr 28 a [(0, .slice ao es.length cp), (3, .string tx), (4, .int .i64 (k : Int))] ∧ St w0 ([]) w) (fun k => es.length - k) 0 ⟨⟨#[]⟩, ⟨Nat.zero_le _, rfl, Nat.le_refl _⟩, J.ls _, E.o⟩ ?_;clear J E; clear a;rintro k a w1 ⟨tx, ⟨hk, hq, hz⟩, J, E⟩;replace E := Bx.mk E;revert a;refine xsq<|xsr<|xr 2 rfl<|xy rfl (vn 153 2 rfl)<|xr 1 rfl<|xne<|xcd 8 rfl (fun _ dcc1=>?_) fun _ dcc1=>?_
 refine xct rfl<|xsk<|xet<|xsq<|xbl ?_;have hen := Xe hok (UX (show k < es.length by omega)); have hnz := ZcA hen.1; have hdz : (Zy (es.getD k Zc.zero).aG.toNat).size ≤ 9 := JU (by omega);intro a J;refine Yf (by kernel_rfl) (by kernel_rfl) E.o ?_;revert a;refine xqr 3 rfl<|xq rfl (fun E=>vxr 153 k 2 rfl (RE.out.ao k (by omega)))<|Qf 0 rfl<|xq rfl (fun E a J=>ylo (v := .string ((es.getD k Zc.zero).aD)) rfl (J.ev rfl) (RE.out.elem E (Zi (xs := es) (j := k) (d := Zc.zero) (by omega)) 0 _ rfl))<|xq rfl (fun E a J=>ZB rfl (J.ev rfl) (J.ev rfl) (by (try simp only [YK, Zl]); omega))<|xq rfl (fun E a J=>ZB rfl (J.ev rfl) (J.ev rfl) (by (try simp only [YK, Zl]); omega))<|xqr 2 rfl<|xq rfl (fun E=>vxr 153 k 2 rfl (RE.out.ao k (by omega)))<|Qf 1 rfl<|xq rfl (fun E a J=>ylo (v := .int .i64 ((es.getD k Zc.zero).aG)) rfl (J.ev rfl) (RE.out.elem E (Zi (xs := es) (j := k) (d := Zc.zero) (by omega)) 1 _ rfl)) ?_;refine yq (fun _ E => YW ((es.getD k Zc.zero).aG) (by omega) (by omega) _) func31 ?_;refine xq rfl (fun E a J=>ZB rfl (J.ev rfl) (J.ev rfl) (by (try simp only [YK, Zl]); omega))<|xq rfl (fun E a J=>ZB rfl (J.ev rfl) (J.ev rfl) (by (try simp only [YK, Zl]); omega))<|xqr 1 rfl ?_;intro a J;refine wpQuiet_nil ?_; intro w2 E; replace E := Bx.mk E;revert a;refine xeb<|xet<|xrl<|xr 1 rfl<|xy rfl (vad rfl)<|xr 1 rfl<|xne ?_;have hnx : ((((tx ++ (es.getD k Zc.zero).aD) ++ (⟨#[61]⟩ : ByteArray)) ++ Zy (es.getD k Zc.zero).aG.toNat) ++ (⟨#[59]⟩ : ByteArray)) = QC (es.take (k + 1)) := by rw [Zed (by omega), YR (by omega) (by omega), hq]
 have hnz2 : ((((tx ++ (es.getD k Zc.zero).aD) ++ (⟨#[61]⟩ : ByteArray)) ++ Zy (es.getD k Zc.zero).aG.toNat) ++ (⟨#[59]⟩ : ByteArray)).size ≤ 15 * (k + 1) := by simp only [Zl]; have : (⟨#[61]⟩ : ByteArray).size = 1 := rfl; have : (⟨#[59]⟩ : ByteArray).size = 1 := rfl; omega
 intro a J;exact ⟨(k + 1), ⟨((((tx ++ (es.getD k Zc.zero).aD) ++ (⟨#[61]⟩ : ByteArray)) ++ Zy (es.getD k Zc.zero).aG.toNat) ++ (⟨#[59]⟩ : ByteArray)), ⟨by omega, hnx, hnz2⟩, J.less _ ⟨rfl, rfl, rfl, trivial⟩, E.o⟩, (by omega)⟩;refine xcf rfl<|xex<|xtx<|xtx<|xbh<|xet<|xsr<|xr 2 rfl<|xne<|xre<|xb1 results153 rfl ?_;obtain rfl : k = es.length := by omega
 exact ⟨by rw [hq, List.take_length], E.o.bel⟩
def Zms (e : Zc) : ByteArray := ⟨(Zd5 e).toArray⟩
def ZiR (y : ByteArray) : Zc := ⟨(Zd y 61).getD 0 ByteArray.empty, Xx ((Zd y 61).getD 1 ByteArray.empty)⟩
theorem Zc7 (s : ByteArray) (c : UInt8) (l : List ByteArray) (h : splitL c s.data.toList = l.map fun x : ByteArray => x.data.toList) : Zd s c = l := by
 unfold Zd;rw [h]; exact ZbD l
theorem Zee : ∀ {l : List Zc}, (∀ e ∈ l, YE e.aD = true) → splitL 59 (J5 l) = (l.map fun e => Zd5 e) ++ [[]]
 | [], _ => rfl
 | e :: r, h => by
  rw [J6, Q4 59 _ _ (fun x hx hc => Zd6 (h e (mem_cons_self ..)) (hc ▸ hx)), Zee fun x hx => h x (mem_cons_of_mem _ hx)]; rfl
theorem V7 {s : ByteArray} {l : List Zc} (h : IsEnts s l) : Zd s 59 = l.map Zms ++ [ByteArray.empty] := by
 refine Zc7 _ _ _ ?_;rw [← h.is, Zbf, Zee fun e he => (Xe h.ok he).1, List.map_append, List.map_map]; rfl
theorem Zef {e : Zc} (h : YE e.aD = true) : Zd (Zms e) 61 = [e.aD, ZI e.aG] := by
 refine Zc7 _ _ _ ?_;show splitL 61 (Zd5 e) = _;unfold Zd5;rw [Q4 61 _ _ (Zb1 h 61 (by decide)), Ji 61 _ (Zga 61 (by decide) _)]; rfl
theorem ZnF {e : Zc} (h : YE e.aD = true) (hi : 1 ≤ e.aG ∧ e.aG ≤ 15) : ZiR (Zms e) = e := by
 unfold ZiR;rw [Zef h];show (⟨e.aD, Xx (ZI e.aG)⟩ : Zc) = e;rw [X1 (by omega)]
theorem Zmt {s : ByteArray} {l : List Zc} (h : IsEnts s l) {i : Nat} (hi : i + 1 < (Zd s 59).length) : (Zd ((Zd s 59).getD i ByteArray.empty) 61).length = 2 := by
 rw [V7 h, length_append, length_map, length_singleton] at hi;rw [V7 h, getD_eq_getElem?_getD, List.getElem?_append_left (by rw [length_map]; omega), List.getElem?_map, getElem?_eq_getElem (by omega)];show (Zd (Zms l[i]) 61).length = 2;rw [Zef (Xe h.ok (List.getElem_mem _)).1]; rfl
theorem ZhD {s : ByteArray} {l : List Zc} (h : IsEnts s l) : ((Zd s 59).take ((Zd s 59).length - 1)).map ZiR = l := by
 rw [V7 h, length_append, length_map, length_singleton, Nat.add_sub_cancel, List.take_left' (by rw [length_map]), List.map_map];have : ∀ e ∈ l, (ZiR ∘ Zms) e = e := fun e he => ZnF (Xe h.ok he).1 (Xe h.ok he).2
 rw [List.map_congr_left this, List.map_id']
theorem Zeg (s : ByteArray) (c : UInt8) : 1 ≤ (Zd s c).length := by rw [XX]; omega
theorem Vk {s : ByteArray} {c : UInt8} {i : Nat} (h : i < (Zd s c).length) : ((Zd s c).getD i ByteArray.empty).size ≤ s.size := by
 have h1 := Jx s c;have key : ∀ (l : List ByteArray) (i : Nat), i < l.length → (l.getD i ByteArray.empty).size ≤ (QO l ⟨#[c]⟩).size := by
  intro l
  induction l with
  | nil => intro i hi; exact absurd hi (Nat.not_lt_zero _)
  | cons x r ih =>
   intro i hi;rw [Zh (QO _ _)];show _ ≤ (Go.Lib.join ((x :: r).map fun y : ByteArray => y.data.toList) _).length;rw [map_cons, Go.Lib.join_cons, length_append]
   cases i with
   | zero => show x.size ≤ _; rw [Zh]; omega
   | succ i =>
    have h2 := ih i (by simpa using hi)
    cases r with
    | nil => exact absurd (by simp at hi) (Nat.not_lt_zero i)
    | cons y r =>
     rw [Zh (QO _ _)] at h2;have h3 : (QO (y :: r) ⟨#[c]⟩).data.toList = Go.Lib.join ((y :: r).map fun y : ByteArray => y.data.toList) [c] := rfl;rw [h3, map_cons, Go.Lib.join_cons, length_append] at h2;show ((y :: r).getD i ByteArray.empty).size ≤ _;simp only [Go.Lib.joinTail, map_cons, List.flatten_cons, length_append] at h2 ⊢
     omega
 have := key _ i h
 rwa [h1] at this
theorem ZhE {s : ByteArray} {c : UInt8} (i : Nat) : ((Zd s c).getD i ByteArray.empty).size ≤ s.size := by
 by_cases h : i < (Zd s c).length
 ·exact Vk h
 ·rw [getD_eq_getElem?_getD, List.getElem?_eq_none (by omega)]; exact Nat.zero_le _
theorem ZnG {s : ByteArray} {n : Nat} (hs : s.size ≤ 1000000) : Zb5 (((Zd s 59).take n).map ZiR) := fun e he => by
 obtain ⟨y, hy, rfl⟩ := List.mem_map.1 he;obtain ⟨i, hi, e⟩ := List.getElem_of_mem (List.mem_of_mem_take hy);have h1 := Vk (s := s) (c := 59) hi;rw [getD_eq_getElem?_getD, getElem?_eq_getElem hi, getD_some, e] at h1;have h2 := ZhE (s := y) (c := 61) 0;show ((Zd y 61).getD 0 ByteArray.empty).size ≤ _
 omega
theorem Zbi (s : ByteArray) (w0 : World) (hs : s.size ≤ 2048) : Calls prog 186 #[.string s] w0 fun e w' => (∃ l, entsG s = some l ∧ ∃ ao cp, e = .returned (.tuple #[.slice ao l.length cp, .bool true]) ∧ St w0 [Zg Zc.cells 2 153 (.slice ao l.length cp) l] w') ∨ (entsG s = none ∧ ∃ ae, e = .returned (.tuple #[.slice ae 0 0, .bool false]) ∧ Below w0.heap.size w0 w') := by
 have E := Bx.mk (St.start w0);refine ent func186 ntmps186 ?_;refine xsr<|xr 2 rfl<|xne<|xsr ?_;refine yem 153 2 E ?_;clear E;intro w1 b1 E;refine xr 1 rfl<|xne<|xsr<|xr 1 rfl ?_;refine yc (JD s 59 _ (by omega)) func62 ?_;rintro _ w2 ⟨ao2, cp2, rfl, hs⟩;refine ⟨_, rfl, ?_⟩;replace E := E.ad hs;clear hs;refine xr 1 rfl<|xne<|xsq<|xsr<|xr 1 rfl<|xne<|xbl ?_;replace E := Bx.mk (E.o.nilRow Zc.cells 2 153 (some ⟨b1, 0, none⟩));intro a J;refine Zt (ι := Nat) (fun i a w => ∃ (ao : Option Addr) (cp : Nat) (es : List Zc), (i + 1 ≤ (Zd s 59).length ∧ es = ((Zd s 59).take i).map ZiR) ∧ Fr 55 a [(0, .string s), (5, .slice ao2 ((Zd s 59).length) cp2), (4, .slice ao es.length cp), (6, .int .i64 (i : Int))] ∧ St w0 ([Zg Zc.cells 2 153 (.slice ao es.length cp) es, Zg Zu 1 9 (.slice ao2 ((Zd s 59).length) cp2) (Zd s 59)]) w) (fun i => (Zd s 59).length - i) 0 ⟨_, _, [], ⟨Zeg _ _, rfl⟩, J.ls _, E.o⟩ ?_;clear J E; clear a;rintro i a w3 ⟨ao, cp, es, ⟨hi, hq⟩, J, E⟩;replace E := Bx.mk E;have hel : es.length = i := by rw [hq, length_map, length_take]; omega
 have hpl0 := XX s 59; have hct0 : s.data.toList.count 59 ≤ s.data.toList.length := List.count_le_length; have hsl0 := Zh s;revert a;refine xsq<|xsr<|xr 1 rfl<|xy rfl (vad rfl)<|xr 1 rfl<|xy rfl (vn 9 1 rfl)<|xr 1 rfl<|xne<|xcd 17 rfl (fun _ dcc1=>?_) fun _ dcc1=>?_
 refine xct rfl<|xsk<|xet<|xsq<|xbl<|xsq ?_;have hwz := Vk (s := s) (c := 59) (i := i) (by omega); have hpl := XX s 59; have hct : s.data.toList.count 59 ≤ s.data.toList.length := List.count_le_length; have hsl := Zh s;obtain ⟨g3, rfl, _, _, _, _⟩ := E.o.rowOpen 1 rfl (by omega);refine xrl<|xr 2 rfl<|xy rfl (vx 9 i 1 rfl)<|xy rfl (fun a J=>ylo (v := .string ((Zd s 59).getD i ByteArray.empty)) rfl (J.ev rfl) (E.o.elem1 Zf 1 rfl (Zi (xs := Zd s 59) (j := i) (d := ByteArray.empty) (by omega)) rfl)) ?_;refine yc (JD ((Zd s 59).getD i ByteArray.empty) 61 _ (by omega)) func62 ?_;rintro _ w4 ⟨ao4, cp4, rfl, hs⟩;refine ⟨_, rfl, ?_⟩;replace E := E.ad hs;clear hs;refine xr 1 rfl<|xne<|xsq<|xsr<|xr 1 rfl<|xy rfl (vn 9 1 rfl)<|xr 1 rfl<|xne<|xcn 27 rfl (fun _ dcc2=>?_) fun _ dcc2=>?_;refine xct rfl<|xsr ?_;refine yem 153 2 E ?_;clear E;intro w5 b5 E;refine xr 2 rfl<|xne<|xre<|xtr<|xbr<|xtr<|xtr<|xbr<|xtr<|xb2 results186 rfl rfl ?_;exact .inr ⟨Zb2 fun l hl => absurd (Zmt hl (i := i) (by omega)) (by omega), _, rfl, E.o.bel⟩;refine xcf rfl<|xsk<|xet<|xsq ?_;have hp2 : (Zd ((Zd s 59).getD i ByteArray.empty) 61).length = 2 := by omega
 have hpz := Vk (s := ((Zd s 59).getD i ByteArray.empty)) (c := 61) (i := 1) (by omega);obtain ⟨g6, rfl, _, _, _, _⟩ := E.o.rowOpen 0 rfl (by omega);refine xrl<|xr 1 rfl<|xy rfl (vx 9 1 1 rfl)<|xy rfl (fun a J=>ylo (v := .string ((Zd ((Zd s 59).getD i ByteArray.empty) 61).getD 1 ByteArray.empty)) rfl (J.ev rfl) (E.o.elem1 Zf 0 rfl (Zi (xs := Zd ((Zd s 59).getD i ByteArray.empty) 61) (j := 1) (d := ByteArray.empty) (by omega)) rfl)) ?_;refine ycB (Qe ((Zd ((Zd s 59).getD i ByteArray.empty) 61).getD 1 ByteArray.empty) _ (by omega)) func39 E ?_;clear E;intro w6 E;refine xr 5 rfl<|xne<|xrl<|xr 2 rfl<|xy rfl (vx 9 0 1 rfl)<|xy rfl (fun a J=>ylo (v := .string ((Zd ((Zd s 59).getD i ByteArray.empty) 61).getD 0 ByteArray.empty)) rfl (J.ev rfl) (E.o.elem1 Zf 0 rfl (Zi (xs := Zd ((Zd s 59).getD i ByteArray.empty) 61) (j := 0) (d := ByteArray.empty) (by omega)) rfl))<|xr 1 rfl<|xy rfl (vb [.string ((Zd ((Zd s 59).getD i ByteArray.empty) 61).getD 0 ByteArray.empty), .int .i64 (Xx ((Zd ((Zd s 59).getD i ByteArray.empty) 61).getD 1 ByteArray.empty))] rfl) ?_;refine ybs Zc.cells 153 2 [(⟨((Zd ((Zd s 59).getD i ByteArray.empty) 61).getD 0 ByteArray.empty), (Xx ((Zd ((Zd s 59).getD i ByteArray.empty) 61).getD 1 ByteArray.empty))⟩ : Zc)] E ?_;clear E;intro b7 w7 E;refine yap Zc6 Zc.cells_len E 2 (St.rdN E.o Zc.cells_len 0 rfl) (XB _) ?_;clear E;intro ao8 cp9 w8 E;refine xr 1 rfl<|xni<|xeb<|xet<|xrl<|xr 1 rfl<|xy rfl (vad rfl)<|xr 1 rfl<|xne ?_;have hz : es.length + ([(⟨((Zd ((Zd s 59).getD i ByteArray.empty) 61).getD 0 ByteArray.empty), (Xx ((Zd ((Zd s 59).getD i ByteArray.empty) 61).getD 1 ByteArray.empty))⟩ : Zc)]).length = (es ++ ([(⟨((Zd ((Zd s 59).getD i ByteArray.empty) 61).getD 0 ByteArray.empty), (Xx ((Zd ((Zd s 59).getD i ByteArray.empty) 61).getD 1 ByteArray.empty))⟩ : Zc)])).length := (length_append ..).symm;intro a J;rw [hz] at E J;have hnext : es ++ ([(⟨((Zd ((Zd s 59).getD i ByteArray.empty) 61).getD 0 ByteArray.empty), (Xx ((Zd ((Zd s 59).getD i ByteArray.empty) 61).getD 1 ByteArray.empty))⟩ : Zc)]) = ((Zd s 59).take (i + 1)).map ZiR := by rw [Ze6 _ (by omega), List.map_append, hq]; rfl
 replace E:=E.pks [3,3];exact ⟨(i + 1), ⟨_, _, es ++ ([(⟨((Zd ((Zd s 59).getD i ByteArray.empty) 61).getD 0 ByteArray.empty), (Xx ((Zd ((Zd s 59).getD i ByteArray.empty) 61).getD 1 ByteArray.empty))⟩ : Zc)]), ⟨by omega, hnext⟩, J.less _ ⟨rfl, rfl, rfl, rfl, trivial⟩, (E.o.erS [3,2])⟩, (by omega)⟩;refine xcf rfl<|xex<|xtx<|xtx<|xbh<|xet<|xsq<|xsq ?_;have hpl := XX s 59; have hct : s.data.toList.count 59 ≤ s.data.toList.length := List.count_le_length; have hsl := Zh s; have hfit : Zb5 es := by rw [hq]; exact ZnG (by omega)
 refine xrl<|xr 1 rfl ?_;refine ycB (Zb6 _ _ es _ hfit (by omega) (St.rdOf E.o Zc.cells_len 0 rfl)) func198 E ?_;clear E;intro w9 E;refine xr 2 rfl<|xcs 47 rfl (fun cc3=>?_) fun cc3=>?_;have hcok : YP es = false := by simpa using cc3
 refine xr 5 rfl<|xne<|xct rfl<|xsr ?_;refine yem 153 2 E ?_;clear E;intro w10 b10 E;refine xr 2 rfl<|xne<|xre<|xtr<|xb2 results186 rfl rfl ?_;refine .inr ⟨Zb2 fun l hl => ?_, _, rfl, E.o.bel⟩;have he := ZhD hl; rw [show (Zd s 59).length - 1 = i by omega, ← hq] at he;rw [he, hl.ok] at hcok; cases hcok;have hcok : YP es = true := by simpa using cc3
 refine xr 1 rfl ?_;refine VJ (ZiQ _ _ es _ (by simpa using hcok) (St.rdOf E.o Zc.cells_len 0 rfl)) func153 E ?_;clear E;intro w11 E;refine xr 1 rfl<|xy rfl (fun a J=>Xk rfl (J.ev rfl) (J.ev rfl))<|xr 1 rfl<|xne<|xcs 52 rfl (fun cc4=>?_) fun cc4=>?_;refine xct rfl<|xsr ?_;refine yem 153 2 E ?_;clear E;intro w12 b11 E;refine xr 2 rfl<|xne<|xre<|xtr<|xb2 results186 rfl rfl ?_;refine .inr ⟨Zb2 fun l hl => ?_, _, rfl, E.o.bel⟩;have he := ZhD hl; rw [show (Zd s 59).length - 1 = i by omega, ← hq] at he;rw [he, hl.is] at cc4; simp at cc4;refine xcf rfl<|xsk<|xet<|xsr<|xr 3 rfl<|xne<|xre<|xb2 results186 rfl rfl ?_;have hIs : IsEnts s es := ⟨hcok, ZN (by simpa using cc4)⟩;exact .inl ⟨es, ZcB hIs, _, _, rfl, (E.o.erase 1)⟩
def less (xs : List Int) (r : Int) : List Int := xs.filter (fun x => !(x == r))
def Zb.zero : Zb := ⟨0, 0, 0, ⟨PtrD.zero, 0, 0⟩⟩
theorem Zmu {ns : List (Option Zb)} {k : Nat} (h : ns.length ≤ k) : ns.getD k none = none := by
 rw [getD_eq_getElem?_getD, List.getElem?_eq_none h]; rfl
theorem ZkA {k a b : Int} (h : inB k a b = false) : k < a ∨ b < k := by
 by_cases h1 : a ≤ k
 ·by_cases h2 : k ≤ b
  ·rw [XU h1 h2] at h; cases h
  ·omega
 ·omega
theorem Zmv {ns : List (Option Zb)} {k : Int} (h : inB k 0 ((ns.length : Int) - 1) = false) : k < 0 ∨ ns.getD k.toNat none = none := by
 by_cases h0 : k < 0
 ·exact .inl h0
 ·refine .inr (Zmu ?_)
  have := ZkA h
  omega
theorem ZhF {st : Za} (p : PtrD) : (Zn st p).size ≤ 128 := by
 cases hh : p.hole with
 | true => rw [Xd hh]; exact Nat.zero_le _
 | false =>
  cases hf : Qk p (Yt st p) with
  | false => rw [Zhg hh hf]; exact Nat.zero_le _
  | true =>
   rw [JE hh hf];unfold Qk at hf;simp only [Bool.and_eq_true, beq_iff_eq] at hf;have h := hf.1;unfold PtrD.ok at h;rw [hh] at h;simp only [Bool.false_or, Bool.and_eq_true] at h;have := (Zs h.1.1.2).2
   omega
theorem ZeP {s : ByteArray} (h : (s.toList == (⟨#[]⟩ : ByteArray).toList) = false) (h0 : s.size = 0) : False := by
 have := ZdK h
 omega
def Zb.cs (n : Zb) : List Value := [.int .i64 n.aj, .int .i64 n.ax, .int .i64 n.am, .int .i64 n.ah.af.aC, .int .i64 n.ah.af.al, .int .i64 n.ah.af.am, .int .i64 n.ah.af.aB, .int .i64 n.ah.af.aq, .int .i64 n.ah.aw, .int .i64 n.ah.ai]
theorem Zb.cs_len (n : Zb) : n.cs.length = 10 := rfl
theorem Zos : UD prog 72 28 10 80 := by
 obtain ⟨i0, hi, hz0, hz1, hz2⟩ := info_parts (P := prog) (e := 28) (z := .agg #[.int .i64 0, .int .i64 0, .int .i64 0, .int .i64 0, .int .i64 0, .int .i64 0, .int .i64 0, .int .i64 0, .int .i64 0, .int .i64 0]) (size := 10) (bytes := 80) (by kernel_rfl);exact ⟨Tryz.underlying72, ⟨i0, _, hi, hz0, hz1, hz2, rfl⟩, by decide⟩
theorem Zc8 (xs : List Zb) : ∀ u ∈ xs.flatMap Zb.cs, u.oneCell' = true := by
 intro u hu;obtain ⟨x, _, hx⟩ := mem_flatMap.1 hu;simp only [Zb.cs, mem_cons, List.not_mem_nil, or_false] at hx;rcases hx with rfl | rfl | rfl | rfl | rfl | rfl | rfl | rfl | rfl | rfl <;> rfl
def X4 (ns : List (Option Zb)) : List Zb := ns.map fun o => o.getD Zb.zero
theorem Vl (ns : List (Option Zb)) : (X4 ns).length = ns.length := length_map ..
theorem ZcC (ns : List (Option Zb)) (k : Nat) : (X4 ns).getD k Zb.zero = (ns.getD k none).getD Zb.zero := by
 unfold X4;rw [getD_eq_getElem?_getD, getD_eq_getElem?_getD, List.getElem?_map]
 cases ns[k]? <;> rfl
theorem ZhG {ns : List (Option Zb)} {k : Nat} {n : Zb} (h : ns.getD k none = some n) : (X4 ns).getD k Zb.zero = n := by rw [ZcC, h]; rfl
theorem ZhH {ns : List (Option Zb)} {k : Nat} (h : ns.getD k none = none) : (X4 ns).getD k Zb.zero = Zb.zero := by rw [ZcC, h]; rfl
noncomputable def entF (st : Za) (n : Zb) : Option (List Zc) := bif n.ok && (n.aj == 2) then V6 st n else none
theorem Zgq {st : Za} {n : Zb} (h : n.ok = false ∨ (n.aj == 2) = false) : entF st n = none := by
 unfold entF;rcases h with h | h
 ·rw [h]; rfl
 ·rw [h, Bool.and_false]; rfl
theorem Zeh {st : Za} {n : Zb} (h : n.ok = true) (h2 : (n.aj == 2) = true) : entF st n = V6 st n := by unfold entF; rw [h, h2]; rfl
theorem Zei {st : Za} {p : PtrD} (he : ((Zn st p).toList == (⟨#[]⟩ : ByteArray).toList) = false) : (Zn st p).size ≠ 0 := fun h => ZeP he h
theorem ZkB (a0 : Option Addr) (c0 : Nat) (a1 : Option Addr) (c1 : Nat) (a2 : Option Addr) (c2 : Nat) (a4 : Option Addr) (c4 : Nat) (a6 : Option Addr) (c6 : Nat) (st : Za) (t : Ze) {x l : List PtrD} (X : TreeX st t x l) (w0 : World) (hR : Rd Zu 1 w0 a0 st.ac.length st.ac) (hrow : Xv st) : Calls prog 185 #[sV a0 c0 a1 c1 a2 c2 a4 c4 a6 c6 st, tV t] w0 fun e w' => e = .returned (.tuple #[.string ((blobL st l).getD ByteArray.empty), .bool (blobL st l).isSome]) ∧ Below w0.heap.size w0 w' := by
 have HR := Bx.mk hR; clear hR;have E := Bx.mk (St.start w0);have hll := X.len; have hmm := X.many; have hlm : (l.map (Zn st)).length = l.length := length_map ..; have h16 := US X.lv;refine ent func185 ntmps185 ?_;refine xsr ?_;refine ybx E ?_;clear E;intro w1 b1 E;refine ybx E ?_;clear E;intro w2 b2 E;refine xr 2 rfl<|xne<|xsr<|xr 1 rfl<|xne<|xsr<|Xw 1 8 E rfl rfl<|Xw 0 7 E rfl rfl ?_;refine yc (Zaw a0 c0 a1 c1 a2 c2 a4 c4 a6 c6 st t X _ (HR.out.below E.o.bel) hrow) func70 ?_;rintro _ w3 ⟨ao3, cp3, rfl, hs⟩;refine ⟨_, rfl, ?_⟩;replace E := E.ad hs;clear hs;refine xr 1 rfl<|xne<|xsq<|xsr<|xr 1 rfl<|xne<|xbl ?_;intro a J;refine Zt (ι := Nat) (fun k a w => ∃ (tx : ByteArray), (k ≤ l.length ∧ tx.size ≤ 128 * k ∧ blobL st l = (blobL st (l.drop k)).map (tx ++ ·)) ∧ Fr 41 a [(2, .pointer (some ⟨b1, 0, none⟩)), (3, .pointer (some ⟨b2, 0, none⟩)), (7, .slice ao3 ((l.map (Zn st)).length) cp3), (6, .string tx), (8, .int .i64 (k : Int))] ∧ St w0 ([Zg Zu 1 9 (.slice ao3 ((l.map (Zn st)).length) cp3) (l.map (Zn st)), boxA b2 7 26 (tV t), boxA b1 8 44 (sV a0 c0 a1 c1 a2 c2 a4 c4 a6 c6 st)]) w) (fun k => l.length - k) 0 ⟨⟨#[]⟩, ⟨Nat.zero_le _, Nat.zero_le _, ZiL⟩, J.ls _, E.o⟩ ?_;clear J E; clear a;rintro k a w4 ⟨tx, ⟨hk, htx, hbl⟩, J, E⟩;replace E := Bx.mk E;revert a;refine xsq<|xsr<|xr 1 rfl<|Xf 6 rfl<|Xl 1 E rfl rfl<|xr 1 rfl<|xne<|xcd 16 rfl (fun _ dcc1=>?_) fun _ dcc1=>?_
 refine xct rfl<|xsk<|xet<|xsq<|xbl<|xsq ?_;have hrp := ZhF (st := st) (l.getD k PtrD.zero);obtain ⟨g4, rfl, _, _, _, _⟩ := E.o.rowOpen 0 rfl (by omega);refine xrl<|xr 2 rfl<|xy rfl (vx 9 k 1 rfl)<|xy rfl (fun a J=>ylo (v := .string (Zn st (l.getD k PtrD.zero))) rfl (J.ev rfl) (E.o.elem1 Zf 0 rfl (Zgi (by omega)) rfl))<|xr 1 rfl<|xne<|xsq<|xsr<|xr 1 rfl<|xy rfl (fun a J=>Y7 rfl (J.ev rfl) (J.ev rfl))<|xr 1 rfl<|xcs 25 rfl (fun cc2=>?_) fun cc2=>?_;refine xr 11 rfl<|xne<|xct rfl<|xsr<|xr 2 rfl<|xne<|xre<|xtr<|xbr<|xtr<|xtr<|xbr<|xtr<|xb2 results185 rfl rfl ?_;have h0 : Zn st (l.getD k PtrD.zero) = ⟨#[]⟩ := ZN (by simpa using cc2);exact ⟨by rw [Zfw hbl (show k < l.length by omega) (.inl (by rw [h0]; rfl))] <;> rfl, E.o.bel⟩;refine xr 1 rfl<|xy rfl (vad rfl)<|Xf 6 rfl<|Xl 1 E rfl rfl<|xr 2 rfl<|xcd 31 rfl (fun _ dcc3=>?_) fun _ dcc3=>?_;refine xr 1 rfl<|xy rfl (fun a J=>ZM rfl (J.ev rfl) (by kernel_rfl))<|xr 3 rfl<|xne<|xcn 36 rfl (fun _ dcc4=>?_) fun _ dcc4=>?_;refine xct rfl<|xsr<|xr 2 rfl<|xne<|xre<|xtr<|xbr<|xtr<|xtr<|xbr<|xtr<|xb2 results185 rfl rfl ?_;exact ⟨by rw [Zfw hbl (show k < l.length by omega) (.inr ⟨by omega, by have h := dcc4; omega⟩)] <;> rfl, E.o.bel⟩;refine xcf rfl<|xsk<|xet<|xrl<|xr 2 rfl<|xy rfl (fun a J=>ZB rfl (J.ev rfl) (J.ev rfl) (by (try simp only [YK, Zl]); omega))<|xr 1 rfl<|xni<|xeb<|xet<|xrl<|xr 1 rfl<|xy rfl (vad rfl)<|xr 1 rfl<|xne ?_;have h1 : (Zn st (l.getD k PtrD.zero)).size ≠ 0 := Zei (by simpa using cc2);have hbs := Zfv hbl (show k < l.length by omega) h1 (.inr (by have h := dcc4; omega));intro a J;exact ⟨(k + 1), ⟨(tx ++ Zn st (l.getD k PtrD.zero)), ⟨by omega, by rw [Zl]; omega, hbs⟩, J.less _ ⟨rfl, rfl, rfl, rfl, rfl, trivial⟩, E.o⟩, (by omega)⟩;refine xr 5 rfl<|xne<|xcf rfl<|xsk<|xet<|xrl<|xr 2 rfl<|xy rfl (fun a J=>ZB rfl (J.ev rfl) (J.ev rfl) (by (try simp only [YK, Zl]); omega))<|xr 1 rfl<|xni<|xeb<|xet<|xrl<|xr 1 rfl<|xy rfl (vad rfl)<|xr 1 rfl<|xne ?_;have h1 : (Zn st (l.getD k PtrD.zero)).size ≠ 0 := Zei (by simpa using cc2);have hbs := Zfv hbl (show k < l.length by omega) h1 (.inl (by omega));intro a J;exact ⟨(k + 1), ⟨(tx ++ Zn st (l.getD k PtrD.zero)), ⟨by omega, by rw [Zl]; omega, hbs⟩, J.less _ ⟨rfl, rfl, rfl, rfl, rfl, trivial⟩, E.o⟩, (by omega)⟩;refine xcf rfl<|xex<|xtx<|xtx<|xbh<|xet<|xsr<|xr 3 rfl<|xne<|xre<|xb2 results185 rfl rfl ?_;have hbx := Zmm hbl (by omega);exact ⟨by rw [hbx] <;> rfl, E.o.bel⟩
theorem V8 (a0 : Option Addr) (c0 : Nat) (a1 : Option Addr) (c1 : Nat) (a2 : Option Addr) (c2 : Nat) (a4 : Option Addr) (c4 : Nat) (a6 : Option Addr) (c6 : Nat) (st : Za) (n : Zb) (w0 : World) (hR : Rd Zu 1 w0 a0 st.ac.length st.ac) (hrow : Xv st) (h0 : 0 ≤ st.av) : Calls prog 152 #[sV a0 c0 a1 c1 a2 c2 a4 c4 a6 c6 st, nV n] w0 fun e w' => (∃ es, entF st n = some es ∧ ∃ ao cp, e = .returned (.tuple #[.slice ao es.length cp, .bool true]) ∧ St w0 [Zg Zc.cells 2 153 (.slice ao es.length cp) es] w') ∨ (entF st n = none ∧ ∃ ae, e = .returned (.tuple #[.slice ae 0 0, .bool false]) ∧ Below w0.heap.size w0 w') := by
 have HR := Bx.mk hR; clear hR;have E := Bx.mk (St.start w0);refine ent func152 ntmps152 ?_;refine xsr ?_;refine ybx E ?_;clear E;intro w1 b1 E;refine ybx E ?_;clear E;intro w2 b2 E;refine xr 2 rfl<|xne<|xsq<|xsr<|Xw 0 10 E rfl rfl ?_;refine ycB (J4 n _) func8 E ?_;clear E;intro w3 E;refine xr 2 rfl<|xcs 11 rfl (fun cc1=>?_) fun cc1=>?_;refine xr 11 rfl<|xne<|xct rfl<|xsr ?_;refine yem 153 2 E ?_;clear E;intro w4 b3 E;refine xr 2 rfl<|xne<|xre<|xtr<|xb2 results152 rfl rfl ?_;exact .inr ⟨Zgq (.inl (by simpa using cc1)), _, rfl, E.o.bel⟩;refine Xf 0 rfl<|Xl 0 E rfl rfl<|xr 3 rfl<|xcn 16 rfl (fun cc2 dcc2=>?_) fun cc2 dcc2=>?_;refine xr 6 rfl<|xne<|xct rfl<|xsr ?_;refine yem 153 2 E ?_;clear E;intro w5 b4 E;refine xr 2 rfl<|xne<|xre<|xtr<|xb2 results152 rfl rfl ?_;exact .inr ⟨Zgq (.inr (by simpa using cc2)), _, rfl, E.o.bel⟩;refine Xw 1 8 E rfl rfl<|Xf 3 rfl<|Xw 0 7 E rfl rfl ?_;refine VJ (Zmb a0 c0 a1 c1 a2 c2 a4 c4 a6 c6 st n.ah _ (HR.out.below E.o.bel) hrow) func184 E ?_;clear E;intro w6 E;refine xr 2 rfl<|xne<|xcs 22 rfl (fun cc3=>?_) fun cc3=>?_;refine xct rfl<|xsr ?_;refine yem 153 2 E ?_;clear E;intro w7 b5 E;refine xr 2 rfl<|xne<|xre<|xtr<|xb2 results152 rfl rfl ?_;exact .inr ⟨by unfold entF; rw [Zfx (Zmf h0 (by simpa using cc3))]; cases (n.ok && (n.aj == 2)) <;> rfl, _, rfl, E.o.bel⟩;refine xcf rfl<|xsk<|xet<|xsq ?_;have hok : n.ok = true := by simpa using cc1
 have hk2 : (n.aj == 2) = true := by simpa using cc2
 have htk : okS st n.ah = true := by simpa using cc3
 obtain ⟨l, hlf⟩ := Zme h0 htk; obtain ⟨x, X⟩ := treeX h0 hlf;refine xrl<|Xw 1 8 E rfl rfl<|Xf 3 rfl<|Xw 0 7 E rfl rfl ?_;refine ycB (ZkB a0 c0 a1 c1 a2 c2 a4 c4 a6 c6 st n.ah X _ (HR.out.below E.o.bel) hrow) func185 E ?_;clear E;intro w8 E;refine xr 5 rfl<|xne<|xsq<|xsr<|xr 3 rfl<|xcs 33 rfl (fun cc4=>?_) fun cc4=>?_;refine xr 6 rfl<|xne<|xct rfl<|xsr ?_;refine yem 153 2 E ?_;clear E;intro w9 b6 E;refine xr 2 rfl<|xne<|xre<|xtr<|xb2 results152 rfl rfl ?_;exact .inr ⟨by unfold entF; rw [Zfy hlf (by cases hb9 : blobL st l with | none => rfl | some s => rw [hb9] at cc4; simp at cc4)]; cases (n.ok && (n.aj == 2)) <;> rfl, _, rfl, E.o.bel⟩;refine xr 1 rfl<|xy rfl (fun a J=>ZM rfl (J.ev rfl) (by kernel_rfl))<|Xf 2 rfl<|Xl 0 E rfl rfl<|xr 2 rfl<|xne<|xcn 39 rfl (fun _ dcc5=>?_) fun _ dcc5=>?_;refine xct rfl<|xsr ?_;refine yem 153 2 E ?_;clear E;intro w10 b7 E;refine xr 2 rfl<|xne<|xre<|xtr<|xb2 results152 rfl rfl ?_;obtain ⟨s, hbl⟩ : ∃ s, blobL st l = some s := Option.isSome_iff_exists.1 (by simpa using cc4);exact .inr ⟨by unfold entF; rw [Zfz hlf hbl (by have h := dcc5; rw [hbl] at h; exact h)]; cases (n.ok && (n.aj == 2)) <;> rfl, _, rfl, E.o.bel⟩;refine xcf rfl<|xsk<|xet<|xsq ?_;obtain ⟨s, hbl⟩ : ∃ s, blobL st l = some s := Option.isSome_iff_exists.1 (by simpa using cc4); have hsz := Zd7 (st := st) (fun p => ZhF p) hbl; have h16 := US hlf; have hsz9 : ((blobL st l).getD ByteArray.empty).size ≤ 2048 := by rw [hbl]; show s.size ≤ 2048; omega
 refine xrl<|xr 1 rfl ?_;refine yc (Zbi ((blobL st l).getD ByteArray.empty) _ hsz9) func186 ?_;rintro _ w11 (⟨el, heg, aoL, cpL, rfl, hs1⟩ | ⟨heg, ae, rfl, hb⟩);refine ⟨_, rfl, ?_⟩; replace E := E.ad hs1;clear hs1;refine xr 4 rfl<|xne<|xre<|xb2 results152 rfl rfl ?_;have hd : entF st n = entsG s := by rw [Zeh hok hk2]; exact Zd8 hlf hbl (by have h := dcc5; rw [hbl] at h; exact h)
 rw [hbl] at heg;exact .inl ⟨el, hd.trans heg, _, _, rfl, (E.o.erS [2,1])⟩;refine ⟨_, rfl, ?_⟩; replace E := Bx.mk (E.o.later hb);clear hb;refine xr 4 rfl<|xne<|xre<|xb2 results152 rfl rfl ?_;have hd : entF st n = entsG s := by rw [Zeh hok hk2]; exact Zd8 hlf hbl (by have h := dcc5; rw [hbl] at h; exact h)
 rw [hbl] at heg;exact .inr ⟨hd.trans heg, _, rfl, E.o.bel⟩
theorem Zc9 {ns : List (Option Zb)} {k : Nat} (h : k < ns.length) {n : Zb} (hn : (X4 ns).getD k Zb.zero = n) : (X4 ns).take k ++ [n] = (X4 ns).take (k + 1) := by
 have hl : k < (X4 ns).length := by rw [Vl]; exact h
 rw [List.take_succ_eq_append_getElem hl, ← hn, getD_eq_getElem?_getD, getElem?_eq_getElem hl]; rfl
theorem Zgr (a0 : Option Addr) (c0 : Nat) (a1 : Option Addr) (c1 : Nat) (a2 : Option Addr) (c2 : Nat) (a4 : Option Addr) (c4 : Nat) (a6 : Option Addr) (c6 : Nat) (st : Za) (t : Ze) {ns : List (Option Zb)} (htb : ZeO st t = some ns) (w0 : World) (hR : Rd Zu 1 w0 a0 st.ac.length st.ac) (hrow : Xv st) (h0 : 0 ≤ st.av) : Calls prog 42 #[sV a0 c0 a1 c1 a2 c2 a4 c4 a6 c6 st, tV t] w0 fun e w' => ∃ ao cp, e = .returned (.slice ao (X4 ns).length cp) ∧ St w0 [Zg Zb.cs 10 28 (.slice ao (X4 ns).length cp) (X4 ns)] w' := by
 have HR := Bx.mk hR; clear hR;have E := Bx.mk (St.start w0);obtain ⟨l, hlf, htL, hlen⟩ := Zgk htb; obtain ⟨x, X⟩ := treeX h0 hlf; have hll := X.len; have hmm := X.many; have hlm : (l.map (Zn st)).length = l.length := length_map ..; have h16 := US hlf;refine ent func42 ntmps42 ?_;refine xsr ?_;refine ybx E ?_;clear E;intro w1 b1 E;refine ybx E ?_;clear E;intro w2 b2 E;refine xr 1 rfl<|xne<|xsr ?_;refine yem 28 10 E ?_;clear E;intro w3 b3 E;refine xr 1 rfl<|xne<|xsr<|Xw 1 8 E rfl rfl<|Xw 0 7 E rfl rfl ?_;refine yc (Zaw a0 c0 a1 c1 a2 c2 a4 c4 a6 c6 st t X _ (HR.out.below E.o.bel) hrow) func70 ?_;rintro _ w4 ⟨ao4, cp4, rfl, hs⟩;refine ⟨_, rfl, ?_⟩;replace E := E.ad hs;clear hs;refine xr 1 rfl<|xne<|xsq<|xsr<|xr 1 rfl<|xne<|xbl ?_;replace E := Bx.mk (E.o.nilRow Zb.cs 10 28 (some ⟨b3, 0, none⟩));intro a J;refine Zt (ι := Nat) (fun k a w => ∃ (ao : Option Addr) (cp : Nat) (xs : List Zb), (k ≤ ns.length ∧ xs = (X4 ns).take k) ∧ Fr 33 a [(2, .pointer (some ⟨b1, 0, none⟩)), (3, .pointer (some ⟨b2, 0, none⟩)), (6, .slice ao4 ((l.map (Zn st)).length) cp4), (5, .slice ao xs.length cp), (7, .int .i64 (k : Int))] ∧ St w0 ([Zg Zb.cs 10 28 (.slice ao xs.length cp) xs, Zg Zu 1 9 (.slice ao4 ((l.map (Zn st)).length) cp4) (l.map (Zn st)), boxA b2 7 26 (tV t), boxA b1 8 44 (sV a0 c0 a1 c1 a2 c2 a4 c4 a6 c6 st)]) w) (fun k => ns.length - k) 0 ⟨_, _, [], ⟨Nat.zero_le _, rfl⟩, J.ls _, E.o⟩ ?_;clear J E; clear a;rintro k a w5 ⟨ao, cp, xs, ⟨hk, hq⟩, J, E⟩;replace E := Bx.mk E;have hxl : xs.length = k := by rw [hq, length_take, Vl]; omega
 revert a;refine xsq<|xsr<|xr 2 rfl<|xy rfl (vn 9 1 rfl)<|xr 1 rfl<|xne<|xcd 17 rfl (fun _ dcc1=>?_) fun _ dcc1=>?_
 refine xct rfl<|xsk<|xet<|xsq<|xbl<|xsq ?_;have hrt := V0 hrow (l.getD k PtrD.zero);obtain ⟨g5, rfl, _, _, _, _⟩ := E.o.rowOpen 1 rfl (by omega);refine xrl<|xr 2 rfl<|xy rfl (vx 9 k 1 rfl)<|xy rfl (fun a J=>ylo (v := .string (Zn st (l.getD k PtrD.zero))) rfl (J.ev rfl) (E.o.elem1 Zf 1 rfl (Zgi (by omega)) rfl)) ?_;have hat := Zds htL k (by omega);refine yc (XJ (Zn st (l.getD k PtrD.zero)) _ hrt) func14 ?_;rintro _ w6 (⟨n, hno, hnb, rfl, hb⟩ | ⟨hnn, rfl, hb⟩);have hnk : ns.getD k none = some n := Zeb hat hno hnb;refine ⟨_, rfl, ?_⟩; replace E := Bx.mk (E.o.later hb);clear hb;refine xr 3 rfl ?_;refine yal z10 E ?_;clear E;intro w7 b6 E;refine yst E 0 ?_;clear E;intro w8 E;replace E:=E.nm;refine xr 1 rfl<|xne<|xrl<|xr 1 rfl<|Xw 0 10 E rfl rfl ?_;refine ybs Zb.cs 28 10 [n] E ?_;clear E;intro b7 w9 E;refine yap Zos Zb.cs_len E 2 (St.rdN E.o Zb.cs_len 0 rfl) (Zc8 _) ?_;clear E;intro ao8 cp9 w10 E;refine xr 1 rfl<|xni<|xeb<|xet<|xrl<|xr 1 rfl<|xy rfl (vad rfl)<|xr 1 rfl<|xne ?_;have hz : xs.length + ([n]).length = (xs ++ ([n])).length := (length_append ..).symm;intro a J;rw [hz] at E J;have hnext : xs ++ ([n]) = (X4 ns).take (k + 1) := by rw [hq]; exact Zc9 (by omega) (ZhG hnk)
 replace E:=E.pks [5,5,5,5];exact ⟨k + 1, ⟨_, _, xs ++ ([n]), ⟨by omega, hnext⟩, J.less _ ⟨rfl, rfl, rfl, rfl, rfl, trivial⟩, (E.o.erS [5,4])⟩, (by omega)⟩;have hnk : ns.getD k none = none := Zec hat hnn;refine ⟨_, rfl, ?_⟩; replace E := Bx.mk (E.o.later hb);clear hb;refine xr 3 rfl ?_;refine yal z10 E ?_;clear E;intro w11 b10 E;refine yst E 0 ?_;clear E;intro w12 E;replace E:=E.nm;refine xr 1 rfl<|xne<|xrl<|xr 1 rfl<|Xw 0 10 E rfl rfl ?_;refine ybs Zb.cs 28 10 [Zb.zero] E ?_;clear E;intro b11 w13 E;refine yap Zos Zb.cs_len E 2 (St.rdN E.o Zb.cs_len 0 rfl) (Zc8 _) ?_;clear E;intro ao12 cp13 w14 E;refine xr 1 rfl<|xni<|xeb<|xet<|xrl<|xr 1 rfl<|xy rfl (vad rfl)<|xr 1 rfl<|xne ?_;have hz : xs.length + ([Zb.zero]).length = (xs ++ ([Zb.zero])).length := (length_append ..).symm;intro a J;rw [hz] at E J;have hnext : xs ++ ([Zb.zero]) = (X4 ns).take (k + 1) := by rw [hq]; exact Zc9 (by omega) (ZhH hnk)
 replace E:=E.pks [5,5,5,5];exact ⟨k + 1, ⟨_, _, xs ++ ([Zb.zero]), ⟨by omega, hnext⟩, J.less _ ⟨rfl, rfl, rfl, rfl, rfl, trivial⟩, (E.o.erS [5,4])⟩, (by omega)⟩;refine xcf rfl<|xex<|xtx<|xtx<|xbh<|xet<|xsr<|xr 2 rfl<|xne<|xre<|xb1 results42 rfl ?_;obtain rfl : k = ns.length := by omega
 have hq9 : xs = X4 ns := by rw [hq, ← Vl, List.take_length]
 subst hq9;exact ⟨_, _, rfl, (E.o.erS [3,2,1])⟩
def ZfD (o : Option Nat) : Int := match o with | none => -1 | some k => (k : Int)
theorem Qx (k : Nat) : ZfD (some k) = (k : Int) := rfl
theorem Zgs {l : List ByteArray} {i : Nat} (h : i < l.length) : l.drop i = l.getD i ByteArray.empty :: l.drop (i + 1) := by
 rw [List.drop_eq_getElem_cons h, getD_eq_getElem?_getD, getElem?_eq_getElem h]; rfl
def Zr (s : ByteArray) : List ByteArray := bif (s.toList == (⟨#[47]⟩ : ByteArray).toList) then [] else Zd (s.extract 1 s.size) 47
theorem Zay {s : ByteArray} (h : (s.toList == (⟨#[47]⟩ : ByteArray).toList) = true) : Zr s = [] := by unfold Zr; rw [h]; rfl
theorem Us {s : ByteArray} (h : (s.toList == (⟨#[47]⟩ : ByteArray).toList) = false) : Zr s = Zd (s.extract 1 s.size) 47 := by unfold Zr; rw [h]; rfl
theorem ZnH {t : ByteArray} (h : ZdJ t = true) : (Zd t 47).length ≤ 4 := by
 unfold ZdJ at h;rw [Bool.and_eq_true] at h;exact of_decide_eq_true h.1
theorem J8 {s : ByteArray} (h : ZL s = true) : (Zr s).length ≤ 4 := by
 cases h1 : (s.toList == (⟨#[47]⟩ : ByteArray).toList) with
 | true => rw [Zay h1]; exact Nat.zero_le _
 | false =>
  cases h2 : (s.data.toList.head? == some 47) with
  | false => rw [JR h1 h2] at h; cases h
  | true =>
   rw [JS h1 h2] at h;rw [Us h1]; exact ZnH h
theorem ZcD (aoE : Option Addr) (cpE : Nat) (es : List Zc) (s : ByteArray) (w0 : World) (ho : YP es = true) (hE : Rd Zc.cells 2 w0 aoE es.length es) : Calls prog 124 #[.slice aoE es.length cpE, .string s] w0 fun e w' => e = .returned (.int .i64 (ZfD (QD es s))) ∧ Below w0.heap.size w0 w' := by
 obtain ⟨gE, oE, rE⟩ := hE.opn; have RE := Bx.mk rE; clear rE;have h12 := (UT ho).2;have E := Bx.mk (St.start w0);refine ent func124 ntmps124 ?_;refine xsr<|xr 1 rfl<|xne<|xsq<|xsr<|xr 1 rfl<|xne<|xbl ?_;intro a J;refine Zt (ι := Nat) (fun i a w => (i ≤ es.length ∧ ∀ j, j < i → (es.getD j Zc.zero).aD ≠ s) ∧ Fr 20 a [(0, .slice aoE es.length cpE), (1, .string s), (4, .int .i64 0), (5, .int .i64 (i : Int))] ∧ St w0 ([]) w) (fun i => es.length - i) 0 ⟨⟨Nat.zero_le _, fun j hj => absurd hj (Nat.not_lt_zero _)⟩, J.ls _, E.o⟩ ?_;clear J E; clear a;rintro i a w1 ⟨⟨hi, hal⟩, J, E⟩;replace E := Bx.mk E;revert a;refine xsq<|xsr<|xr 2 rfl<|xy rfl (vn 153 2 rfl)<|xr 1 rfl<|xne<|xcd 9 rfl (fun _ dcc1=>?_) fun _ dcc1=>?_
 refine xct rfl<|xsk<|xet<|xsq<|xbl<|xsr<|xr 2 rfl<|xy rfl (vxr 153 i 2 rfl (RE.out.ao i (by omega)))<|Xf 0 rfl<|xy rfl (fun a J=>ylo (v := .string ((es.getD i Zc.zero).aD)) rfl (J.ev rfl) (RE.out.elem E.o (Zi (xs := es) (j := i) (d := Zc.zero) (by omega)) 0 _ rfl))<|xr 1 rfl<|xy rfl (fun a J=>Y7 rfl (J.ev rfl) (J.ev rfl))<|xne<|xcs 18 rfl (fun cc2=>?_) fun cc2=>?_;refine xct rfl<|xsr<|xr 2 rfl<|xne<|xre<|xbr<|xtr<|xtr<|xbr<|xtr<|xb1 results124 rfl ?_;have hx : QD es s = some i := Zea ho (o := some i) ⟨by omega, ZN cc2⟩; exact ⟨by rw [hx] <;> rfl, E.o.bel⟩;have hne9 : (es.getD i Zc.zero).aD ≠ s := fun e => by rw [e] at cc2; simp at cc2
 have hal2 : ∀ j, j < i + 1 → (es.getD j Zc.zero).aD ≠ s := fun j hj => (Nat.lt_or_ge j i).elim (fun h => hal j h) (fun h => by obtain rfl : j = i := (by omega); exact hne9)
 refine xcf rfl<|xsk<|xeb<|xet<|xrl<|xr 1 rfl<|xy rfl (vad rfl)<|xr 1 rfl<|xne ?_;intro a J;exact ⟨(i + 1), ⟨⟨by omega, hal2⟩, J.less _ ⟨rfl, rfl, rfl, rfl, trivial⟩, E.o⟩, (by omega)⟩;refine xcf rfl<|xex<|xtx<|xtx<|xbh<|xet<|xsr<|xr 1 rfl<|xne<|xre<|xb1 results124 rfl ?_;have hx : QD es s = none := Zea ho (o := none) fun j hj => hal j (by omega); exact ⟨by rw [hx] <;> rfl, E.o.bel⟩
theorem Zgt (s : ByteArray) (w0 : World) (h : (s.toList == (⟨#[47]⟩ : ByteArray).toList) = true) : Calls prog 129 #[.string s] w0 fun e w' => ∃ ao cp, e = .returned (.slice ao (Zr s).length cp) ∧ Rd Zu 1 w' ao (Zr s).length (Zr s) ∧ Below w0.heap.size w0 w' := by
 have E := Bx.mk (St.start w0);refine ent func129 ntmps129 ?_;refine xsr<|xr 1 rfl<|xne<|xsq<|xsr<|xr 1 rfl<|xy rfl (fun a J=>Y7 rfl (J.ev rfl) (J.ev rfl))<|xne<|xcs 4 rfl (fun cc1=>?_) fun cc1=>?_;refine xct rfl<|xsr ?_;refine yem 9 1 E ?_;clear E;intro w1 b1 E;refine xr 1 rfl<|xne<|xre<|xtr<|xb1 results129 rfl ?_;rw [Zay h]; exact ⟨_, _, rfl, Zak _ _ _ _, E.o.bel⟩;rw [h] at cc1; cases cc1
theorem ZeQ (s : ByteArray) (w0 : World) (hp : ZL s = true) (hs : s.size ≤ 4000000000) : Calls prog 129 #[.string s] w0 fun e w' => ∃ ao cp, e = .returned (.slice ao (Zr s).length cp) ∧ Rd Zu 1 w' ao (Zr s).length (Zr s) ∧ Below w0.heap.size w0 w' := by
 cases h : (s.toList == (⟨#[47]⟩ : ByteArray).toList) with
 | true => exact Zgt s w0 h
 | false =>
  cases h2 : (s.data.toList.head? == some 47) with
  | false => rw [JR h h2] at hp; cases hp
  | true =>
   refine (ZbM s w0 h h2 (by omega)).mono fun e w' hx => ?_;obtain ⟨ao, cp, e1, e2, e3⟩ := hx;rw [Us h];have hl := e2.len;rw [← hl] at e1 e2;exact ⟨ao, cp, e1, e2, e3⟩
theorem Zb7 (s : ByteArray) (w0 : World) (hs : s.size ≤ 4000000000) : Calls prog 160 #[.string s] w0 fun e w' => (ZL s = true ∧ ∃ ao cp, e = .returned (.tuple #[.slice ao (Zr s).length cp, .bool true]) ∧ St w0 [Zg Zu 1 9 (.slice ao (Zr s).length cp) (Zr s)] w') ∨ (ZL s = false ∧ ∃ v, e = .returned (.tuple #[v, .bool false]) ∧ Below w0.heap.size w0 w') := by
 have E := Bx.mk (St.start w0);refine ent func160 ntmps160 ?_;refine xsr<|xr 2 rfl<|xne<|xsq<|xsr<|xr 1 rfl ?_;refine ycB (JW s _ hs) func93 E ?_;clear E;intro w1 E;refine xr 1 rfl<|xne<|xcs 6 rfl (fun cc1=>?_) fun cc1=>?_;have hpb : ZL s = false := by simpa using cc1
 refine xct rfl<|xsr ?_;refine yem 9 1 E ?_;clear E;intro w2 b1 E;refine xr 2 rfl<|xne<|xre<|xtr<|xb2 results160 rfl rfl ?_;exact .inr ⟨hpb, _, rfl, E.o.bel⟩;have hpb : ZL s = true := by simpa using cc1
 have hn4 := J8 hpb;refine xcf rfl<|xsk<|xet<|xsr ?_;refine yem 9 1 E ?_;clear E;intro w3 b2 E;refine xr 1 rfl ?_;refine yc (ZeQ s _ hpb hs) func129 ?_;rintro _ w4 ⟨aoL, cpL, rfl, hrd, hb⟩;refine ⟨_, rfl, ?_⟩; replace E := Bx.mk (E.o.later hb);clear hb;replace E := Bx.mk (E.o.nilRow Zu 1 9 (some ⟨b2, 0, none⟩));intro a J;refine XE rfl J rfl rfl rfl (J.ev rfl) (J.ev rfl) Y3 Zf E.o 0 (xs := []) rfl (ys := (Zr s)) hrd (Zv _) (by unfold maxLen; (try simp only [length_append, length_cons, length_nil, nil_append, length_map]); omega) (by (try simp only [length_append, length_cons, length_nil, nil_append, length_map]); omega) ?_; clear J E a; intro ao4 cp5 w5 a J E; replace E := Bx.mk E;revert a;refine xr 2 rfl<|xne<|xre<|xb2 results160 rfl rfl ?_;replace E:=E.pks [0];have h0 : ([] : List ByteArray).length + (Zr s).length = (Zr s).length := Nat.zero_add _; rw [h0] at E;exact .inl ⟨hpb, _, _, by rw [h0], E.o⟩
theorem ZfE (a0 : Option Addr) (c0 : Nat) (a1 : Option Addr) (c1 : Nat) (a2 : Option Addr) (c2 : Nat) (a4 : Option Addr) (c4 : Nat) (a6 : Option Addr) (c6 : Nat) (st : Za) (t : Ze) {x : List PtrD} (hx : downL (kidsS st) (depthN t.ai) [t.af] = some x) (hdep : t.aw = ((depthN t.ai : Nat) : Int)) (hxl : x.length ≤ 16) (hxok : ∀ p ∈ x, p.ok = true) (k : Nat) (hk : k < 16) (w0 : World) (hR : Rd Zu 1 w0 a0 st.ac.length st.ac) (hrow : Xv st) : Calls prog 188 #[sV a0 c0 a1 c1 a2 c2 a4 c4 a6 c6 st, tV t, .int .i64 (k : Int)] w0 fun e w' => e = .returned (.string (Zn st ((Zo x).getD k PtrD.zero))) ∧ Below w0.heap.size w0 w' := by
 have HR := Bx.mk hR; clear hR;have E := Bx.mk (St.start w0);refine ent func188 ntmps188 ?_;refine xsr ?_;refine ybx E ?_;clear E;intro w1 b1 E;refine ybx E ?_;clear E;intro w2 b2 E;refine xr 1 rfl<|xne<|xsr<|Xw 1 8 E rfl rfl<|Xw 0 7 E rfl rfl ?_;refine yc (Vi a0 c0 a1 c1 a2 c2 a4 c4 a6 c6 st t hx hdep hxl _ (HR.out.below E.o.bel) hrow) func95 ?_;rintro _ w3 ⟨ao3, cp3, rfl, hs⟩;refine ⟨_, rfl, ?_⟩;replace E := E.ad hs;clear hs;refine xr 1 rfl<|xne<|xsq ?_;have hwl := UQ hxl; have hwok := ZbW hxok;obtain ⟨g4, rfl, _, _, _, _⟩ := E.o.rowOpen 0 rfl (by omega);intro a J;refine Yf (by kernel_rfl) (by kernel_rfl) E.o ?_;revert a;refine Qw 2 8 rfl rfl<|xqr 2 rfl<|xq rfl (fun E=>vx 24 k 5 rfl)<|xq rfl (fun E a J=>ylr (cs := pL ((Zo x).getD k PtrD.zero)) rfl (J.ev rfl) (E.elem PtrD.cells_len 0 rfl (Zi (xs := Zo x) (j := k) (d := PtrD.zero) (by omega)))) ?_;refine yq (fun _ E => (J3 a0 c0 a1 c1 a2 c2 a4 c4 a6 c6 st ((Zo x).getD k PtrD.zero) _ (HR.out.below E.bel) hrow (hwok _ (YN (by omega))))) func96 ?_;refine xqr 5 rfl ?_;intro a J;refine wpQuiet_nil ?_; intro w4 E; replace E := Bx.mk E;revert a;refine xet<|xsr<|xr 2 rfl<|xne<|xre<|xb1 results188 rfl ?_;exact ⟨rfl, E.o.bel⟩
def PtrD.eqv (x y : PtrD) : Bool := x.aC == y.aC && (x.al == y.al && (x.am == y.am && (x.aB == y.aB && x.aq == y.aq)))
theorem ZjD (x y : PtrD) (d : Nat) (w : World) : (Op.equalIn (d + 2) 24 (.agg #[.int .i64 x.aC, .int .i64 x.al, .int .i64 x.am, .int .i64 x.aB, .int .i64 x.aq]) (.agg #[.int .i64 y.aC, .int .i64 y.al, .int .i64 y.am, .int .i64 y.aB, .int .i64 y.aq])).run prog w = .ok (x.eqv y) w := by
 have hS : Tryz.prog.underlying 24 = some (.struct (Tryz.prog.fieldsOf 24)) := by kernel_rfl
 have hp : Tryz.prog.stoodInHeld 24 = false := by kernel_rfl
 rw [run_equalIn_agg w (d + 1) 24 _ _ hS hp];simp only [Program.fieldsOf, Tryz.underlying24];unfold PtrD.eqv
 go_simp
 by_cases h1 : x.aC = y.aC <;> by_cases h2 : x.al = y.al <;> by_cases h3 : x.am = y.am <;> by_cases h4 : x.aB = y.aB <;> by_cases h5 : x.aq = y.aq <;> simp [h1, h2, h3, h4, h5]
theorem ZcE {w : World} {o : Oper} {a : Act} {x y : Operand} {t' : TypeId} (p q : PtrD) (ho : o.op = .binOp .neq 24 x y t') (hx : a.eval x = .agg #[.int .i64 p.aC, .int .i64 p.al, .int .i64 p.am, .int .i64 p.aB, .int .i64 p.aq]) (hy : a.eval y = .agg #[.int .i64 q.aC, .int .i64 q.al, .int .i64 q.am, .int .i64 q.aB, .int .i64 q.aq]) : Yl prog w o a (.bool (!(p.eqv q))) := by
 have he := ZjD p q 9998 w;unfold Yl execOp;simp only [ho, hx, hy];simp [eqGuard, binOp, go_sem, Op.equal];rw [show Op.maxDepth = 9998 + 2 from rfl, he]; rfl
theorem Zgu {a b : List PtrD} (h : a.Sublist b) (i : Nat) : cnt a i ≤ cnt b i := (h.filter _).length_le
def Xj (a b : List PtrD) : Prop := ∀ (f : PtrD → Bool) (i : Nat), 8 ≤ i → cnt (a.filter f) i ≤ cnt (b.filter f) i
theorem Xj.nil (b : List PtrD) : Xj [] b := fun f i _ => Nat.zero_le _
theorem Xj.refl (b : List PtrD) : Xj b b := fun f i _ => Nat.le_refl _
theorem Xj.app {a b c d : List PtrD} (h : Xj a b) (k : Xj c d) : Xj (a ++ c) (b ++ d) := fun f i hi => by
 rw [filter_append, filter_append, Zj, Zj];have := h f i hi; have := k f i hi; omega
theorem Xj.trans {a b c : List PtrD} (h : Xj a b) (k : Xj b c) : Xj a c := fun f i hi => Nat.le_trans (h f i hi) (k f i hi)
theorem Xj.swap (a b : List PtrD) : Xj (a ++ b) (b ++ a) := fun f i _ => by
 rw [filter_append, filter_append, Zj, Zj]; omega
theorem UY {a : List PtrD} (h : ∀ q ∈ a, q.hole = true) {i : Nat} (hi : 8 ≤ i) : cnt a i = 0 := by
 unfold cnt;rw [List.length_eq_zero_iff, List.filter_eq_nil_iff];intro q hq;rw [YT (h q hq)];show ¬ ((0 : Int) == (i : Int)) = true;rw [beq_iff_eq]; omega
theorem Xj.holes {a b : List PtrD} (h : ∀ q ∈ a, q.hole = true) : Xj a b := fun f i hi => by
 rw [UY (fun q hq => h q (List.mem_filter.1 hq).1) hi]; exact Nat.zero_le _
theorem Xj.some (a : List PtrD) : Xj a (a.filter fun q => !q.hole) := fun f i hi => by
 induction a with
 | nil => exact Nat.le_refl _
 | cons q r ih =>
  have e : q :: r = [q] ++ r := rfl;rw [e, filter_append, filter_append, filter_append, Zj, Zj]
  cases hh : q.hole with
  | true =>
   have := UY (a := [q].filter f) (fun x hx => by have := (List.mem_filter.1 hx).1; rw [mem_singleton] at this; rw [this]; exact hh) hi
   omega
  | false =>
   rw [show [q].filter (fun q => !q.hole) = [q] by rw [List.filter_cons, hh]; rfl]
   omega
theorem PtrD.eqv_iff {x y : PtrD} : x.eqv y = true ↔ x = y := by
 unfold PtrD.eqv;simp only [Bool.and_eq_true, beq_iff_eq]
 constructor
 ·rintro ⟨a, b, c, d, e⟩; cases x; cases y; dsimp only at a b c d e; subst a; subst b; subst c; subst d; subst e; rfl
 ·rintro rfl; exact ⟨rfl, rfl, rfl, rfl, rfl⟩
structure LayI (st0 : Za) (inn R A : List PtrD) (L : List PtrD) (n : Nat) (W next back stays : List PtrD) (st : Za) (N : List PtrD) : Prop where
  inv : Inv st (N ++ (inn ++ R))
  kp : Z5 st0 st (inn ++ R)
  wfn : ∀ p ∈ next, Wf st (n + 1) p
  wfb : ∀ p ∈ back, Wf st n p
  lvs : next.flatMap (lvL st (n + 1)) ++ back.flatMap (lvL st n) = L
  acc : ∀ i, 8 ≤ i → i < 64 → cnt (next.flatMap (allL st (n + 1)) ++ back.flatMap (allL st n)) i ≤ cnt N i + cnt stays i + cnt A i
  mem : ∀ q ∈ next.flatMap (allL st (n + 1)) ++ back.flatMap (allL st n), q ∈ N ∨ (q ∈ stays ∧ q ∈ inn) ∨ q ∈ R
  sty : Xj stays W
section
variable {st0 : Za} {inn R A L : List PtrD} {n : Nat} {W next back stays : List PtrD} {st : Za} {N : List PtrD}
theorem LayI.start {cs : List PtrD} (h : Inv st0 (inn ++ R)) (hw : ∀ p ∈ cs, Wf st0 0 p) (hc : ∀ i, 8 ≤ i → i < 64 → cnt cs i ≤ cnt A i) (hm : ∀ q ∈ cs, q.hole = true ∨ q ∈ R) : LayI st0 inn R A cs 0 [] [] cs [] st0 [] := by
 have e1 : ∀ l : List PtrD, l.flatMap (lvL st0 0) = l := fun l => by
  induction l with
  | nil => rfl
  | cons q r ih => rw [flatMap_cons, ih]; rfl
 have e2 : ∀ l : List PtrD, l.flatMap (allL st0 0) = l.filter fun q => !q.hole := fun l => by
  induction l with
  | nil => rfl
  | cons q r ih =>
   rw [flatMap_cons, ih, List.filter_cons]
   cases hh : q.hole with
   | true => rw [ZW hh]; rfl
   | false => rw [QB hh]; rfl
 refine ⟨h, Z5.refl _ _, fun p hp => (nomatch hp), hw, e1 cs, fun i h8 hi => ?_, fun q hq => ?_, Xj.nil _⟩
 ·show cnt (cs.flatMap (allL st0 0)) i ≤ _
  rw [e2];have := Zgu (List.filter_sublist (p := fun q : PtrD => !q.hole) (l := cs)) i;have := hc i h8 hi
  omega
 ·have hq : q ∈ cs.flatMap (allL st0 0) := hq
  rw [e2, List.mem_filter] at hq;rcases hm q hq.1 with h | h
  ·rw [h] at hq; cases hq.2
  ·exact .inr (.inr h)
theorem LayI.pad (h : LayI st0 inn R A L n W [] back stays st N) (k : Nat) : LayI st0 inn R A (L ++ replicate (k * 4 ^ n) PtrD.zero) n W [] (back ++ replicate k PtrD.zero) stays st N := by
 have hO := Za.ok_spec h.inv.ok;have ea : (replicate k PtrD.zero).flatMap (allL st n) = [] := by
  rw [List.flatMap_eq_nil_iff]; intro q hq; rw [(List.mem_replicate.1 hq).2]; exact ZW X9 n
 have el : (replicate k PtrD.zero).flatMap (lvL st n) = replicate (k * 4 ^ n) PtrD.zero := by
  induction k with
  | zero => simp
  | succ k ih =>
   rw [List.replicate_succ, flatMap_cons, ih (by rw [List.flatMap_eq_nil_iff]; intro q hq; rw [(List.mem_replicate.1 hq).2]; exact ZW X9 n), ZbZ X9, List.replicate_append_replicate]
   congr 1; rw [Nat.add_mul]; omega
 refine ⟨h.inv, h.kp, fun p hp => (nomatch hp), fun p hp => ?_, ?_, fun i h8 hi => ?_, fun q hq => ?_, h.sty⟩
 ·rcases mem_append.1 hp with hp | hp
  ·exact h.wfb p hp
  ·rw [(List.mem_replicate.1 hp).2]; exact Wf.zero (by have := hO.txg; omega) n
 ·rw [flatMap_append, el, ← List.append_assoc, h.lvs]
 ·have := h.acc i h8 hi
  rw [flatMap_append, ea, append_nil]; exact this
 ·rw [flatMap_append, ea, append_nil] at hq; exact h.mem q hq
theorem LayI.turn (h : LayI st0 inn R A L n W next [] stays st N) : LayI st0 inn R A L (n + 1) W [] next stays st N :=
 ⟨h.inv, h.kp, fun p hp => (nomatch hp), h.wfn, by have := h.lvs; rw [flatMap_nil, append_nil] at this; exact this,
  fun i h8 hi => by have := h.acc i h8 hi; rw [flatMap_nil, append_nil] at this; exact this,
  fun q hq => h.mem q (by rw [flatMap_nil, append_nil]; exact hq), h.sty⟩
theorem LayI.step {c back' : List PtrD} (h : LayI st0 inn R A L n W next (c ++ back') stays st N) {st' : Za} {N' stays' : List PtrD} {p w : PtrD}
  (hinv : Inv st' (N' ++ (inn ++ R))) (hkp : Z5 st st' (N ++ (inn ++ R))) (hpo : p.ok = true) (hpb : p.al ≤ st'.av) (hk : kids st' p ((n + 1 : Nat) : Int) = some c)
  (hcnt : ∀ i, 8 ≤ i → i < 64 → cnt [p] i + cnt N i + cnt stays i ≤ cnt N' i + cnt stays' i) (hp : p.hole = true ∨ p ∈ N' ∨ (p ∈ stays' ∧ p ∈ inn)) (hN : ∀ q ∈ N, q ∈ N') (hs : ∀ q ∈ stays, q ∈ stays') (hst : Xj stays' (W ++ [w])) :
  LayI st0 inn R A L n (W ++ [w]) (next ++ [p]) back' stays' st' N' := by
 have hr := hkp.rows;have hcl : ∀ {l : List PtrD} {m : Nat}, (∀ q ∈ l.flatMap (allL st m), q ∈ N ∨ (q ∈ stays ∧ q ∈ inn) ∨ q ∈ R) → ∀ x ∈ l, ∀ q ∈ allL st m x, q ∈ N ++ (inn ++ R) := fun hm x hx q hq => by
  rcases hm q (mem_flatMap.2 ⟨x, hx, hq⟩) with a | a | a
  ·exact mem_append_left _ a
  ·exact mem_append_right _ (mem_append_left _ a.2)
  ·exact mem_append_right _ (mem_append_right _ a)
 have hmn : ∀ q ∈ next.flatMap (allL st (n + 1)), q ∈ N ∨ (q ∈ stays ∧ q ∈ inn) ∨ q ∈ R := fun q hq => h.mem q (mem_append_left _ hq)
 have hmb : ∀ q ∈ (c ++ back').flatMap (allL st n), q ∈ N ∨ (q ∈ stays ∧ q ∈ inn) ∨ q ∈ R := fun q hq => h.mem q (mem_append_right _ hq)
 have tn : ∀ x ∈ next, Wf st' (n + 1) x ∧ allL st' (n + 1) x = allL st (n + 1) x ∧ lvL st' (n + 1) x = lvL st (n + 1) x := fun x hx => (h.wfn x hx).rows hr (hcl hmn x hx)
 have tb : ∀ x ∈ c ++ back', Wf st' n x ∧ allL st' n x = allL st n x ∧ lvL st' n x = lvL st n x := fun x hx => (h.wfb x hx).rows hr (hcl hmb x hx)
 have tc : ∀ x ∈ c, Wf st' n x ∧ allL st' n x = allL st n x ∧ lvL st' n x = lvL st n x := fun x hx => tb x (mem_append_left _ hx)
 have t2 : ∀ x ∈ back', Wf st' n x ∧ allL st' n x = allL st n x ∧ lvL st' n x = lvL st n x := fun x hx => tb x (mem_append_right _ hx)
 have en : next.flatMap (allL st' (n + 1)) = next.flatMap (allL st (n + 1)) := YC fun x hx => (tn x hx).2.1
 have e2 : back'.flatMap (allL st' n) = back'.flatMap (allL st n) := YC fun x hx => (t2 x hx).2.1
 have ec : c.flatMap (allL st' n) = c.flatMap (allL st n) := YC fun x hx => (tc x hx).2.1
 have hpa : ∀ q ∈ allL st' (n + 1) p, (p.hole = false ∧ q = p) ∨ q ∈ c.flatMap (allL st n) := fun q hq => by
  cases hh : p.hole with
  | true => rw [ZW hh] at hq; cases hq
  | false =>
   rw [Y0 hh hk, ec] at hq;rcases mem_cons.1 hq with rfl | hq
   ·exact .inl ⟨rfl, rfl⟩
   ·exact .inr hq
 have hpc : ∀ i, 8 ≤ i → cnt (allL st' (n + 1) p) i ≤ cnt [p] i + cnt (c.flatMap (allL st n)) i := fun i _ => by
  cases hh : p.hole with
  | true => rw [ZW hh]; exact Nat.zero_le _
  | false => rw [Y0 hh hk, ec, show p :: c.flatMap (allL st n) = [p] ++ c.flatMap (allL st n) from rfl, Zj]; exact Nat.le_refl _
 have hup : ∀ q, (q ∈ N ∨ (q ∈ stays ∧ q ∈ inn) ∨ q ∈ R) → q ∈ N' ∨ (q ∈ stays' ∧ q ∈ inn) ∨ q ∈ R := fun q hq => by
  rcases hq with a | a | a
  ·exact .inl (hN q a)
  ·exact .inr (.inl ⟨hs q a.1, a.2⟩)
  ·exact .inr (.inr a)
 refine ⟨hinv, h.kp.trans (hkp.mono fun q hq => mem_append_right _ hq), fun x hx => ?_, fun x hx => (t2 x hx).1, ?_, fun i h8 hi => ?_, fun q hq => ?_, hst⟩
 ·rcases mem_append.1 hx with hx | hx
  ·exact (tn x hx).1
  ·rw [mem_singleton.1 hx]; exact ⟨hpo, hpb, c, hk, fun y hy => (tc y hy).1⟩
 ·rw [flatMap_append, flatMap_cons, flatMap_nil, append_nil, QV hk, YC fun x hx => (tn x hx).2.2, YC fun x hx => (tc x hx).2.2, YC fun x hx => (t2 x hx).2.2, ← h.lvs, flatMap_append, List.append_assoc]
 ·have h1 := h.acc i h8 hi
  have h2 := hcnt i h8 hi;have h3 := hpc i h8;rw [flatMap_append, Zj, Zj] at h1;rw [flatMap_append, flatMap_cons, flatMap_nil, append_nil, en, e2, Zj, Zj]
  omega
 ·rw [flatMap_append, flatMap_cons, flatMap_nil, append_nil, en, e2] at hq
  rcases mem_append.1 hq with hq | hq
  ·rcases mem_append.1 hq with hq | hq
   ·exact hup q (hmn q hq)
   ·rcases hpa q hq with ⟨hh, rfl⟩ | hq
    ·rcases hp with a | a | a
     ·rw [hh] at a; cases a
     ·exact .inl a
     ·exact .inr (.inl a)
    ·exact hup q (hmb q (by rw [flatMap_append]; exact mem_append_left _ hq))
  ·exact hup q (hmb q (by rw [flatMap_append]; exact mem_append_right _ hq))
def QX (stays : List PtrD) (p w : PtrD) : List PtrD := if p.eqv w then stays ++ [p] else stays
theorem ZcF (h : Xj stays W) (p w : PtrD) : Xj (QX stays p w) (W ++ [w]) := by
 unfold QX
 split
 ·next e => rw [PtrD.eqv_iff.1 e]; exact h.app (Xj.refl _)
 ·have := h.app (Xj.nil [w]); rwa [append_nil] at this
theorem ZcG {p w q : PtrD} (h : q ∈ stays) : q ∈ QX stays p w := by
 unfold QX
 split
 ·exact mem_append_left _ h
 ·exact h
theorem ZfF (p w : PtrD) (i : Nat) : cnt stays i ≤ cnt (QX stays p w) i := by
 unfold QX
 split
 ·rw [Zj]; omega
 ·exact Nat.le_refl _
theorem LayI.hole {c back' : List PtrD} (h : LayI st0 inn R A L n W next (c ++ back') stays st N) (hc : c.length = 4) (hh : c.all (fun p => p.hole) = true) (w : PtrD) : LayI st0 inn R A L n (W ++ [w]) (next ++ [PtrD.zero]) back' (QX stays PtrD.zero w) st N := by
 have hO := Za.ok_spec h.inv.ok;have e : c = YL := by
  obtain ⟨a, b, x, y, rfl⟩ : ∃ a b x y, c = [a, b, x, y] := by
   match c, hc with
   | [a, b, x, y], _ => exact ⟨a, b, x, y, rfl⟩
  simp only [List.all_cons, List.all_nil, Bool.and_true, Bool.and_eq_true] at hh;rw [YT hh.1, YT hh.2.1, YT hh.2.2.1, YT hh.2.2.2]; rfl
 refine h.step h.inv (Z5.refl _ _) rfl (by show (0 : Int) ≤ _; have := hO.txg; omega) (by rw [e]; exact JF rfl) (fun i h8 hi => ?_) (.inl rfl) (fun q hq => hq) (fun q hq => ZcG hq) (ZcF h.sty _ _);have := UY (a := [PtrD.zero]) (fun q hq => by rw [mem_singleton.1 hq]; rfl) h8;have := ZfF (stays := stays) PtrD.zero w i
 omega
theorem LayI.reuse {c back' : List PtrD} (h : LayI st0 inn R A L n W next (c ++ back') stays st N) {w : PtrD} (hf : IsFan (Yt st w) c) (hh : w.hole = false) (hw : Wf st0 (n + 1) w) (hi : w ∈ inn) : LayI st0 inn R A L n (W ++ [w]) (next ++ [w]) back' (QX stays w w) st N := by
 have hrow : Yt st w = Yt st0 w := h.kp.row w (mem_append_left _ hi) hw.ok.1 hh;obtain ⟨ho, hb, l, hk, hl⟩ := hw;have hk2 : kids st w ((n + 1 : Nat) : Int) = some l := by rw [ZbY fun _ => hrow]; exact hk
 have e : l = c := by
  rcases (QT hk2).2.2 with ⟨a, _⟩ | ⟨_, _, hr, hfl, _⟩
  ·rw [hh] at a; cases a
  ·rw [QS hh] at hr
   rw [JE hh hr] at hfl;exact hfl.one hf
 have hs : QX stays w w = stays ++ [w] := by unfold QX; rw [if_pos (PtrD.eqv_iff.2 rfl)]
 refine h.step h.inv (Z5.refl _ _) ho (by rw [h.kp.txg]; exact hb) (by rw [hk2, e]) (fun i h8 hi => ?_) (.inr (.inr ⟨?_, hi⟩)) (fun q hq => hq) (fun q hq => ZcG hq) (ZcF h.sty _ _)
 ·rw [hs, Zj]; omega
 ·rw [hs]; exact mem_append_right _ (mem_singleton.2 rfl)
theorem LayI.fresh {c back' : List PtrD} (h : LayI st0 inn R A L n W next (c ++ back') stays st N) (hf : IsFan (fanB c) c) (hsz : inB (fanB c).size 1 128 = true) (hn : n + 1 ≤ 2) {i : Nat} (hi : i < 64) (hw : writeAt st (fanB c) ((n + 1 : Nat) : Int) = i) (w : PtrD) :
  LayI st0 inn R A L n (W ++ [w]) (next ++ [YY (i : Int) st.av ((n + 1 : Nat) : Int) (fanB c)]) back' (QX stays (YY (i : Int) st.av ((n + 1 : Nat) : Int) (fanB c)) w) (st.putAt i (st.ac.set i (fanB c))) (YY (i : Int) st.av ((n + 1 : Nat) : Int) (fanB c) :: N) := by
 have hlv : inB ((n + 1 : Nat) : Int) 0 2 = true := XU (by omega) (by omega);obtain ⟨hI, hK, hR⟩ := h.inv.write hsz hlv hi hw;obtain ⟨_, _, _, hpk, _⟩ := Zmg h.inv.ok hsz hlv hi hw;have hO := Za.ok_spec h.inv.ok;have hpo : (YY (i : Int) st.av ((n + 1 : Nat) : Int) (fanB c)).ok = true := by unfold XI at hpk; rw [Bool.and_eq_true] at hpk; exact hpk.2
 have hph : (YY (i : Int) st.av ((n + 1 : Nat) : Int) (fanB c)).hole = false := by
  cases hh : (YY (i : Int) st.av ((n + 1 : Nat) : Int) (fanB c)).hole with
  | false => rfl
  | true =>
   have e : (YY (i : Int) st.av ((n + 1 : Nat) : Int) (fanB c)).aq = 0 := by rw [YT hh]; rfl
   have e2 : (YY (i : Int) st.av ((n + 1 : Nat) : Int) (fanB c)).aq = ((n + 1 : Nat) : Int) := rfl
   omega
 have hfit : Qk (YY (i : Int) st.av ((n + 1 : Nat) : Int) (fanB c)) (fanB c) = true := by
  unfold Qk; rw [hpo, hph];show (true && (true && (((fanB c).size : Int) == ((fanB c).size : Int) && (UF (fanB c) == UF (fanB c))))) = true
  simp
 refine h.step (by rw [cons_append]; exact hI) hK hpo (Int.le_refl _) (ZdR hph (by rw [QS hph, hR]; exact hfit) (beq_self_eq_true _) (by rw [JE hph (by rw [hR]; exact hfit), hR]; exact hf) ?_) (fun j h8 hj => ?_) (.inr (.inl (mem_cons_self ..))) (fun q hq => mem_cons_of_mem _ hq) (fun q hq => ZcG hq) (ZcF h.sty _ _)
 ·rw [List.any_eq_false]
  intro k hk;have := (h.wfb k (mem_append_left _ hk)).ok.2;rw [decide_eq_true_eq];show ¬ st.av < k.al
  omega
 ·have := ZfF (stays := stays) (YY (i : Int) st.av ((n + 1 : Nat) : Int) (fanB c)) w j
  rw [show YY (i : Int) st.av ((n + 1 : Nat) : Int) (fanB c) :: N = [YY (i : Int) st.av ((n + 1 : Nat) : Int) (fanB c)] ++ N from rfl, Zj]
  omega
end
theorem Zb8 {p : PtrD} (h : p.ok = true) : (Z4 p).size ≤ 21 := by
 cases hh : p.hole with
 | true => rw [X8 h hh]; decide
 | false =>
  rw [UH h hh];unfold PtrD.ok at h;rw [hh, Bool.false_or] at h;simp only [Bool.and_eq_true] at h;obtain ⟨⟨⟨⟨h1, h2⟩, h3⟩, h4⟩, h5⟩ := h;have h1 := Zs h1; have h2 := Zs h2; have h3 := Zs h3; have h4 := Zs h4; have h5 := Zs h5;have e : ∀ {n : Int} {k : Nat}, 0 ≤ n → n < ((10 ^ (k + 1) : Nat) : Int) → k ≤ 8 → (ZI n).size ≤ k + 1 := fun {n k} h0 h1 h8 => by
   rw [YR h0 (by
    have : (10 : Nat) ^ (k + 1) ≤ 10 ^ 9 := Nat.pow_le_pow_right (by omega) (by omega)
    omega)]
   exact Zao (by omega)
  have a1 := e (n := p.aC) (k := 1) (by omega) (by show p.aC < ((100 : Nat) : Int); omega) (by omega);have a2 := e (n := p.al) (k := 2) (by omega) (by show p.al < ((1000 : Nat) : Int); omega) (by omega);have a3 := e (n := p.am) (k := 2) (by omega) (by show p.am < ((1000 : Nat) : Int); omega) (by omega);have a4 := e (n := p.aB) (k := 7) (by omega) (by show p.aB < ((100000000 : Nat) : Int); omega) (by omega);have a5 := e (n := p.aq) (k := 0) (by omega) (by show p.aq < ((10 : Nat) : Int); omega) (by omega);simp only [Zl, show Zcp.size = 1 from rfl]
  omega
theorem ZkC (a b c d : PtrD) : (fanB [a, b, c, d]).size = (Z4 a).size + (Z4 b).size + (Z4 c).size + (Z4 d).size + 3 := by
 unfold fanB QO;rw [Zh];simp [Go.Lib.join, Go.Lib.joinTail, ZlZ, ← Zh]
 omega
theorem ZnI {c : List PtrD} (h : c.length = 4) : ∃ a b x y, c = [a, b, x, y] := by
 match c, h with
 | [a, b, x, y], _ => exact ⟨a, b, x, y, rfl⟩
theorem Zb9 {c : List PtrD} (hn : c.length = 4) (ho : ∀ p ∈ c, p.ok = true) : inB ((fanB c).size : Int) 1 128 = true := by
 obtain ⟨a, b, x, y, rfl⟩ := ZnI hn;rw [ZkC];have h1 := Zb8 (ho a (by simp)); have h2 := Zb8 (ho b (by simp)); have h3 := Zb8 (ho x (by simp)); have h4 := Zb8 (ho y (by simp));exact XU (by omega) (by omega)
def Xn (st : Za) (c : List PtrD) (w : PtrD) : Bool := !w.hole && (Qk w (fanB c) && ((Yt st w).toList == (fanB c).toList))
structure ZeR where
  st : Za
  p : PtrD
  ok : Bool
def Yh (st : Za) (c : List PtrD) (lv : Int) (w : PtrD) : ZeR :=
 if c.all (fun p => p.hole) = true then ⟨st, PtrD.zero, true⟩
 else if Xn st c w = true then ⟨st, w, true⟩
 else if writeAt st (fanB c) lv < 64 then ⟨st.putAt (writeAt st (fanB c) lv) (st.ac.set (writeAt st (fanB c) lv) (fanB c)), YY (writeAt st (fanB c) lv : Nat) st.av lv (fanB c), true⟩
 else ⟨st, PtrD.zero, false⟩
section
variable {st : Za} {c : List PtrD} {lv : Int} {w : PtrD}
theorem Vm (h : c.all (fun p => p.hole) = true) : Yh st c lv w = ⟨st, PtrD.zero, true⟩ := by unfold Yh; rw [if_pos h]
theorem Vn (h : c.all (fun p => p.hole) = false) (hs : Xn st c w = true) : Yh st c lv w = ⟨st, w, true⟩ := by unfold Yh; rw [if_neg (by rw [h]; decide), if_pos hs]
theorem Zej (h : c.all (fun p => p.hole) = false) (hs : Xn st c w = false) (hw : writeAt st (fanB c) lv = 64) : Yh st c lv w = ⟨st, PtrD.zero, false⟩ := by unfold Yh; rw [if_neg (by rw [h]; decide), if_neg (by rw [hs]; decide), if_neg (by omega)]
theorem Zda (h : c.all (fun p => p.hole) = false) (hs : Xn st c w = false) {i : Nat} (hi : i < 64) (hw : writeAt st (fanB c) lv = i) : Yh st c lv w = ⟨st.putAt i (st.ac.set i (fanB c)), YY (i : Int) st.av lv (fanB c), true⟩ := by unfold Yh; rw [if_neg (by rw [h]; decide), if_neg (by rw [hs]; decide), hw, if_pos hi]
theorem Zgv (h : st.ok = true) : Inv st [] := ⟨h, fun i _ hi => by
 have := Y1.1 (Za.ok_spec h).owed i hi;show ((cnt [] i + cnt (st.ak ++ st.ar) i : Nat) : Int) ≤ _;rw [Jy]; omega⟩
theorem J9 (st : Za) (text : ByteArray) (level : Int) : writeAt st text level ≤ 64 := by
 unfold writeAt
 split
 ·omega
 ·have := Qi (ZbB st) 56 8; omega
theorem ZjE {text : ByteArray} {level : Int} (h : st.ok = true) (hsz : inB (text.size : Int) 1 128 = true) (hlv : inB level 0 2 = true) {i : Nat} (hi : i < 64) (hw : writeAt st text level = i) : (st.putAt i (st.ac.set i text)).ok = true := ((Zgv h).write hsz hlv hi hw).1.ok
theorem Zgw {text : ByteArray} {level : Int} (h : st.ok = true) (hsz : inB (text.size : Int) 1 128 = true) (hlv : inB level 0 2 = true) {i : Nat} (hi : i < 64) (hw : writeAt st text level = i) : (YY (i : Int) st.av level text).ok = true := by
 have hp := (Zmg h hsz hlv hi hw).2.2.2.1;unfold XI at hp; rw [Bool.and_eq_true] at hp; exact hp.2
structure Ua (st s : Za) : Prop where
  ok : st.ok = true → s.ok = true
  txg : s.av = st.av
  keep : s.az = st.az
  same : s.aA = st.aA
  gone : s.ak = st.ak
  dead : s.ar = st.ar
theorem Ua.refl (st : Za) : Ua st st := ⟨id, rfl, rfl, rfl, rfl, rfl⟩
theorem Ua.trans {a b c : Za} (h : Ua a b) (k : Ua b c) : Ua a c := ⟨fun e => k.ok (h.ok e), k.txg.trans h.txg, k.keep.trans h.keep, k.same.trans h.same, k.gone.trans h.gone, k.dead.trans h.dead⟩
theorem Zgx (hn : c.length = 4) (ho : ∀ p ∈ c, p.ok = true) (hlv : inB lv 0 2 = true) (hw : w.ok = true) (h0 : st.ok = true) : Ua st (Yh st c lv w).st ∧ (Yh st c lv w).p.ok = true := by
 cases ha : c.all (fun p => p.hole) with
 | true => rw [Vm ha]; exact ⟨Ua.refl _, rfl⟩
 | false =>
  cases hs : Xn st c w with
  | true => rw [Vn ha hs]; exact ⟨Ua.refl _, hw⟩
  | false =>
   by_cases hi : writeAt st (fanB c) lv < 64
   ·rw [Zda ha hs hi rfl]
    exact ⟨⟨fun h => ZjE h (Zb9 hn ho) hlv hi rfl, rfl, rfl, rfl, rfl, rfl⟩, Zgw h0 (Zb9 hn ho) hlv hi rfl⟩
   ·rw [Zej ha hs (by have := J9 st (fanB c) lv; omega)]; exact ⟨Ua.refl _, rfl⟩
end
structure Zdk where
  st : Za
  next : List PtrD
  stays : List PtrD
  ok : Bool
def Xb (lv : Int) : Nat → List PtrD → List PtrD → Za → List PtrD → List PtrD → Zdk
 | 0, _, _, st, next, stays => ⟨st, next, stays, true⟩
 | m + 1, back, was, st, next, stays =>
  if (Yh st (back.take 4) lv (was.headD PtrD.zero)).ok = true
  then Xb lv m (back.drop 4) (was.drop 1) (Yh st (back.take 4) lv (was.headD PtrD.zero)).st (next ++ [(Yh st (back.take 4) lv (was.headD PtrD.zero)).p]) (QX stays (Yh st (back.take 4) lv (was.headD PtrD.zero)).p (was.headD PtrD.zero))
  else ⟨(Yh st (back.take 4) lv (was.headD PtrD.zero)).st, next, stays, false⟩
theorem ZkD {lv : Int} {back was next stays : List PtrD} {st : Za} : Xb lv 0 back was st next stays = ⟨st, next, stays, true⟩ := rfl
theorem ZhI {lv : Int} {m : Nat} {back was next stays : List PtrD} {st s : Za} {p : PtrD} (h : Yh st (back.take 4) lv (was.headD PtrD.zero) = ⟨s, p, true⟩) : Xb lv (m + 1) back was st next stays = Xb lv m (back.drop 4) (was.drop 1) s (next ++ [p]) (QX stays p (was.headD PtrD.zero)) := by
 rw [Xb, h, if_pos rfl]
theorem ZjF {lv : Int} {m : Nat} {back was next stays : List PtrD} {st s : Za} {p : PtrD} (h : Yh st (back.take 4) lv (was.headD PtrD.zero) = ⟨s, p, false⟩) : Xb lv (m + 1) back was st next stays = ⟨s, next, stays, false⟩ := by
 rw [Xb, h, if_neg Bool.false_ne_true]
def XK (l : List PtrD) : List PtrD := l ++ replicate ((4 - l.length % 4) % 4) PtrD.zero
theorem V9 (l : List PtrD) : (XK l).length = (l.length + 3) / 4 * 4 := by unfold XK; rw [length_append, List.length_replicate]; omega
theorem ZnJ {l : List PtrD} (h : ∀ p ∈ l, p.ok = true) : ∀ p ∈ XK l, p.ok = true := fun p hp => by
 unfold XK at hp;rcases mem_append.1 hp with hp | hp
 ·exact h p hp
 ·rw [(List.mem_replicate.1 hp).2]; rfl
noncomputable def Ye (st : Za) (t : Ze) (depth lv : Nat) : List PtrD :=
 if t.aw = (depth : Int) then (if lv = depth then [t.af] else (kidsS st t.af (depth : Int)).getD YL) else YL
noncomputable def XR (t : Ze) (depth : Nat) : Nat → Nat → Za → List PtrD → List PtrD → Zdk
 | 0, _, st, list, stays => ⟨st, list, stays, true⟩
 | n + 1, lv, st, list, stays =>
  if (Xb (lv : Int) ((XK list).length / 4) (XK list) (Ye st t depth lv) st [] stays).ok = true
  then XR t depth n (lv + 1) (Xb (lv : Int) ((XK list).length / 4) (XK list) (Ye st t depth lv) st [] stays).st (Xb (lv : Int) ((XK list).length / 4) (XK list) (Ye st t depth lv) st [] stays).next (Xb (lv : Int) ((XK list).length / 4) (XK list) (Ye st t depth lv) st [] stays).stays
  else Xb (lv : Int) ((XK list).length / 4) (XK list) (Ye st t depth lv) st [] stays
theorem ZcH {t : Ze} {depth lv : Nat} {st : Za} {list stays : List PtrD} : XR t depth 0 lv st list stays = ⟨st, list, stays, true⟩ := rfl
theorem Zmw {t : Ze} {depth n lv : Nat} {st s : Za} {list stays next sy : List PtrD} (h : Xb (lv : Int) ((XK list).length / 4) (XK list) (Ye st t depth lv) st [] stays = ⟨s, next, sy, true⟩) : XR t depth (n + 1) lv st list stays = XR t depth n (lv + 1) s next sy := by
 rw [XR, h, if_pos rfl]
theorem ZnK {t : Ze} {depth n lv : Nat} {st s : Za} {list stays next sy : List PtrD} (h : Xb (lv : Int) ((XK list).length / 4) (XK list) (Ye st t depth lv) st [] stays = ⟨s, next, sy, false⟩) : XR t depth (n + 1) lv st list stays = ⟨s, next, sy, false⟩ := by
 rw [XR, h, if_neg Bool.false_ne_true]
noncomputable def ZH (st : Za) (t : Ze) : List PtrD :=
 if t.aw = 0 ∨ t.af.hole = true then [] else t.af :: (if t.aw = 2 then ((kidsS st t.af 2).getD []).filter (fun p => !p.hole) else [])
def Jk (stays : List PtrD) (p : PtrD) : Bool := stays.any fun q => q.eqv p
def Vz (stays : List PtrD) : List PtrD → Za → Za
 | [], s => s
 | p :: r, s => Vz stays r (if Jk stays p = true then s else s.free p)
structure UZ where
  st : Za
  t : Ze
  ok : Bool
def tree0 : Ze := ⟨PtrD.zero, 0, 0⟩
noncomputable def XO (st : Za) (t : Ze) (leaves : List PtrD) (many : Nat) : UZ :=
 if (XR t (depthN many) (depthN many) 1 st (leaves.take many) []).ok = true
 then ⟨Vz (XR t (depthN many) (depthN many) 1 st (leaves.take many) []).stays (ZH st t) (XR t (depthN many) (depthN many) 1 st (leaves.take many) []).st, ⟨(XR t (depthN many) (depthN many) 1 st (leaves.take many) []).next.headD PtrD.zero, (depthN many : Nat), many⟩, true⟩
 else ⟨(XR t (depthN many) (depthN many) 1 st (leaves.take many) []).st, tree0, false⟩
theorem Zek {st s : Za} {t : Ze} {leaves list stays : List PtrD} {many : Nat} (h : XR t (depthN many) (depthN many) 1 st (leaves.take many) [] = ⟨s, list, stays, true⟩) : XO st t leaves many = ⟨Vz stays (ZH st t) s, ⟨list.headD PtrD.zero, (depthN many : Nat), many⟩, true⟩ := by
 unfold XO; rw [h, if_pos rfl]
theorem ZjG {st s : Za} {t : Ze} {leaves list stays : List PtrD} {many : Nat} (h : XR t (depthN many) (depthN many) 1 st (leaves.take many) [] = ⟨s, list, stays, false⟩) : XO st t leaves many = ⟨s, tree0, false⟩ := by
 unfold XO; rw [h, if_neg Bool.false_ne_true]
def YG (st : Za) (text : ByteArray) (level : Int) : ZeR :=
 if writeAt st text level < 64 then ⟨st.putAt (writeAt st text level) (st.ac.set (writeAt st text level) text), YY (writeAt st text level : Nat) st.av level text, true⟩
 else ⟨st, PtrD.zero, false⟩
theorem U0 {st : Za} {text : ByteArray} {level : Int} (h : writeAt st text level = 64) : YG st text level = ⟨st, PtrD.zero, false⟩ := by unfold YG; rw [if_neg (by omega)]
theorem Ub {st : Za} {text : ByteArray} {level : Int} {i : Nat} (hi : i < 64) (h : writeAt st text level = i) : YG st text level = ⟨st.putAt i (st.ac.set i text), YY (i : Int) st.av level text, true⟩ := by unfold YG; rw [h, if_pos hi]
theorem Zbj {st : Za} {c : List PtrD} {lv : Int} {w : PtrD} (h : c.all (fun p => p.hole) = false) (hs : Xn st c w = false) : Yh st c lv w = YG st (fanB c) lv := by
 unfold Yh YG; rw [if_neg (by rw [h]; decide), if_neg (by rw [hs]; decide)]
theorem ZhJ {st : Za} {text : ByteArray} {level : Int} (h0 : st.ok = true) (hsz : inB (text.size : Int) 1 128 = true) (hlv : inB level 0 2 = true) : Ua st (YG st text level).st ∧ (YG st text level).p.ok = true := by
 by_cases hi : writeAt st text level < 64
 ·rw [Ub hi rfl]
  exact ⟨⟨fun h => ZjE h hsz hlv hi rfl, rfl, rfl, rfl, rfl, rfl⟩, Zgw h0 hsz hlv hi rfl⟩
 ·rw [U0 (by have := J9 st text level; omega)]; exact ⟨Ua.refl _, rfl⟩
def XP (st : Za) (old : PtrD) (text : ByteArray) : ZeR :=
 if ((Zn st old).toList == text.toList) = true then ⟨st, old, true⟩ else if text.size = 0 then ⟨st, PtrD.zero, true⟩ else YG st text 0
theorem U1 {st : Za} {old : PtrD} {text : ByteArray} (h : ((Zn st old).toList == text.toList) = true) : XP st old text = ⟨st, old, true⟩ := by unfold XP; rw [if_pos h]
theorem Zaz {st : Za} {old : PtrD} {text : ByteArray} (h : ((Zn st old).toList == text.toList) = false) (h0 : text.size = 0) : XP st old text = ⟨st, PtrD.zero, true⟩ := by unfold XP; rw [if_neg (by rw [h]; decide), if_pos h0]
theorem Zaa {st : Za} {old : PtrD} {text : ByteArray} (h : ((Zn st old).toList == text.toList) = false) (h0 : text.size ≠ 0) : XP st old text = YG st text 0 := by unfold XP; rw [if_neg (by rw [h]; decide), if_neg h0]
noncomputable def XL (st : Za) (t : Ze) (x : List PtrD) (k : Nat) (text : ByteArray) : UZ :=
 if ((Zn st ((Zo x).getD k PtrD.zero)).toList == text.toList) = true ∧ max t.ai ((k : Int) + 1) = t.ai then ⟨st, t, true⟩
 else if (XP st ((Zo x).getD k PtrD.zero) text).ok = true then
  if (XO (XP st ((Zo x).getD k PtrD.zero) text).st t ((Zo x).set k (XP st ((Zo x).getD k PtrD.zero) text).p) (max t.ai ((k : Int) + 1)).toNat).ok = true
  then ⟨if (XP st ((Zo x).getD k PtrD.zero) text).p.eqv ((Zo x).getD k PtrD.zero) = true then (XO (XP st ((Zo x).getD k PtrD.zero) text).st t ((Zo x).set k (XP st ((Zo x).getD k PtrD.zero) text).p) (max t.ai ((k : Int) + 1)).toNat).st else (XO (XP st ((Zo x).getD k PtrD.zero) text).st t ((Zo x).set k (XP st ((Zo x).getD k PtrD.zero) text).p) (max t.ai ((k : Int) + 1)).toNat).st.free ((Zo x).getD k PtrD.zero), (XO (XP st ((Zo x).getD k PtrD.zero) text).st t ((Zo x).set k (XP st ((Zo x).getD k PtrD.zero) text).p) (max t.ai ((k : Int) + 1)).toNat).t, true⟩
  else XO (XP st ((Zo x).getD k PtrD.zero) text).st t ((Zo x).set k (XP st ((Zo x).getD k PtrD.zero) text).p) (max t.ai ((k : Int) + 1)).toNat
 else ⟨st, t, false⟩
section
variable {st s : Za} {t y : Ze} {x : List PtrD} {k : Nat} {text : ByteArray} {old p : PtrD}
theorem U2 {r : ZeR} {b : Bool} (h : r.ok = b) : r = ⟨r.st, r.p, b⟩ := by subst h; rfl
theorem Zel (ho : (Zo x).getD k PtrD.zero = old) (h : ((Zn st old).toList == text.toList) = true) (hm : max t.ai ((k : Int) + 1) = t.ai) : XL st t x k text = ⟨st, t, true⟩ := by
 subst ho; unfold XL; rw [if_pos ⟨h, hm⟩]
theorem ZfG {s : Za} (ho : (Zo x).getD k PtrD.zero = old) (h : ((Zn st old).toList == text.toList) = false) (hp : XP st old text = ⟨s, p, false⟩) : XL st t x k text = ⟨st, t, false⟩ := by
 subst ho; unfold XL; rw [if_neg fun e => by rw [h] at e; exact absurd e.1 (by decide), hp, if_neg Bool.false_ne_true]
theorem Qn {many : Nat} (ho : (Zo x).getD k PtrD.zero = old) (hm : max t.ai ((k : Int) + 1) = (many : Int)) (h : ¬ (((Zn st old).toList == text.toList) = true ∧ (many : Int) = t.ai)) (hp : XP st old text = ⟨s, p, true⟩) :
  XL st t x k text = (if (XO s t ((Zo x).set k p) many).ok = true then ⟨if p.eqv old = true then (XO s t ((Zo x).set k p) many).st else (XO s t ((Zo x).set k p) many).st.free old, (XO s t ((Zo x).set k p) many).t, true⟩ else XO s t ((Zo x).set k p) many) := by
 subst ho; unfold XL; rw [hm, if_neg h, hp, if_pos rfl, Int.toNat_natCast]
end
def Qp (l : List PtrD) (st : Za) : Za := l.foldl (fun s p => s.free p) st
noncomputable def Q0 (st : Za) (t : Ze) (x : List PtrD) (many : Nat) : UZ :=
 if (many : Int) = t.ai then ⟨st, t, true⟩
 else if (XO st t (Zo x) many).ok = true then ⟨Qp ((Zo x).drop many) (XO st t (Zo x) many).st, (XO st t (Zo x) many).t, true⟩
 else ⟨(XO st t (Zo x) many).st, t, false⟩
structure SQ where
  a0 : Option Addr
  c0 : Nat
  a1 : Option Addr
  c1 : Nat
  a2 : Option Addr
  c2 : Nat
  a4 : Option Addr
  c4 : Nat
  a6 : Option Addr
  c6 : Nat
  d : Za
abbrev SQ.l (q : SQ) : List Value := [.slice q.a0 q.d.ac.length q.c0, .slice q.a1 q.d.aa.ag.length q.c1, .slice q.a2 q.d.aa.au.length q.c2, .int .i64 q.d.av, .slice q.a4 q.d.ak.length q.c4, .int .i64 q.d.az, .slice q.a6 q.d.ar.length q.c6, .bool q.d.aA]
abbrev SQ.u (q : SQ) : Value := .agg #[.slice q.a0 q.d.ac.length q.c0, .slice q.a1 q.d.aa.ag.length q.c1, .slice q.a2 q.d.aa.au.length q.c2, .int .i64 q.d.av, .slice q.a4 q.d.ak.length q.c4, .int .i64 q.d.az, .slice q.a6 q.d.ar.length q.c6, .bool q.d.aA]
abbrev fL (q : SQ) (t : Ze) (b : Bool) : List Value := [.slice q.a0 q.d.ac.length q.c0, .slice q.a1 q.d.aa.ag.length q.c1, .slice q.a2 q.d.aa.au.length q.c2, .int .i64 q.d.av, .slice q.a4 q.d.ak.length q.c4, .int .i64 q.d.az, .slice q.a6 q.d.ar.length q.c6, .bool q.d.aA, .int .i64 t.af.aC, .int .i64 t.af.al, .int .i64 t.af.am, .int .i64 t.af.aB, .int .i64 t.af.aq, .int .i64 t.aw, .int .i64 t.ai, .bool b]
abbrev fV (q : SQ) (t : Ze) (b : Bool) : Value := .agg #[.slice q.a0 q.d.ac.length q.c0, .slice q.a1 q.d.aa.ag.length q.c1, .slice q.a2 q.d.aa.au.length q.c2, .int .i64 q.d.av, .slice q.a4 q.d.ak.length q.c4, .int .i64 q.d.az, .slice q.a6 q.d.ar.length q.c6, .bool q.d.aA, .int .i64 t.af.aC, .int .i64 t.af.al, .int .i64 t.af.am, .int .i64 t.af.aB, .int .i64 t.af.aq, .int .i64 t.aw, .int .i64 t.ai, .bool b]
def SQ.v (q : SQ) : Value := .agg #[.slice q.a0 q.d.ac.length q.c0, .slice q.a1 q.d.aa.ag.length q.c1, .slice q.a2 q.d.aa.au.length q.c2, .int .i64 q.d.av, .slice q.a4 q.d.ak.length q.c4, .int .i64 q.d.az, .slice q.a6 q.d.ar.length q.c6, .bool q.d.aA]
def SQ.rows (q : SQ) : List Asr := [Zg Zu 1 9 (.slice q.a0 q.d.ac.length q.c0) q.d.ac, Zg ZG 1 3 (.slice q.a1 q.d.aa.ag.length q.c1) q.d.aa.ag, Zg ZG 1 3 (.slice q.a2 q.d.aa.au.length q.c2) q.d.aa.au, Zg PtrD.cells 5 24 (.slice q.a4 q.d.ak.length q.c4) q.d.ak, Zg PtrD.cells 5 24 (.slice q.a6 q.d.ar.length q.c6) q.d.ar]
def SQ.asr (q : SQ) : Asr := sepA q.rows
theorem St.sqOut {W w : World} {q : SQ} {F : List Asr} (h : St W (q.asr :: F) w) : St W (q.rows ++ F) w := St.join.2 h
theorem St.sqIn {W w : World} {q : SQ} {F : List Asr} (h : St W (q.rows ++ F) w) : St W (q.asr :: F) w := St.join.1 h
theorem St.sqRd {W w : World} {s : List Asr} (h : St W s w) (i : Nat) {q : SQ} (hi : s[i]? = some q.asr) : Rd Zu 1 w q.a0 q.d.ac.length q.d.ac := St.rdOf (h.pick i hi).sqOut Zf 0 rfl
theorem St.sqReads {W w : World} {s : List Asr} (h : St W s w) (i : Nat) {q : SQ} (hi : s[i]? = some q.asr) : Za.Reads w q.v q.d := Za.reads_of (h.pick i hi).sqOut q.d q.a0 q.c0 q.a1 q.c1 q.a2 q.c2 q.a4 q.c4 q.a6 q.c6 0 1 2 3 4 rfl rfl rfl rfl rfl
theorem Zca (w0 w : World) (q : SQ) (text : ByteArray) (level : Int) (F : List Asr) (hok : q.d.ok = true) (hsz : inB (text.size : Int) 1 128 = true) (hlv : inB level 0 2 = true) (hS : St w0 (q.asr :: F) w) :
  Calls prog 149 #[.agg #[.slice q.a0 q.d.ac.length q.c0, .slice q.a1 q.d.aa.ag.length q.c1, .slice q.a2 q.d.aa.au.length q.c2, .int .i64 q.d.av, .slice q.a4 q.d.ak.length q.c4, .int .i64 q.d.az, .slice q.a6 q.d.ar.length q.c6, .bool q.d.aA], .string text, .int .i64 level] w fun e w' => ∃ (q' : SQ) (r : ZeR), r = YG q.d text level ∧ q' = { q with d := r.st } ∧ e = .returned (.tuple #[.agg #[.slice q'.a0 q'.d.ac.length q'.c0, .slice q'.a1 q'.d.aa.ag.length q'.c1, .slice q'.a2 q'.d.aa.au.length q'.c2, .int .i64 q'.d.av, .slice q'.a4 q'.d.ak.length q'.c4, .int .i64 q'.d.az, .slice q'.a6 q'.d.ar.length q'.c6, .bool q'.d.aA], .agg #[.int .i64 r.p.aC, .int .i64 r.p.al, .int .i64 r.p.am, .int .i64 r.p.aB, .int .i64 r.p.aq], .bool r.ok]) ∧ St w0 (q'.asr :: F) w' := by
 have hOK := Za.ok_spec hok;have hSP := Zq.ok_spec hOK.space;have hs2 := Zs hsz;have hWS := ZoF (level := level) hok hsz;refine (Zhw w0 w q.a0 q.c0 q.a1 q.c1 q.a2 q.c2 q.a4 q.c4 q.a6 q.c6 q.d text level F hS.sqOut hOK.rows hSP.refs hSP.last (by omega) hSP.all).mono ?_;rintro e w' (⟨hws, rfl, hs1⟩ | ⟨i, hi6, hws, ⟨hpf, rfl, hs1⟩ | ⟨hpt, rfl, hs1⟩⟩)
 ·exact ⟨q, _, rfl, by rw [U0 (hWS.1 hws)] <;> rfl, by rw [U0 (hWS.1 hws)]; rfl, St.sqIn hs1⟩
 ·have hwa := hWS.2 i hws
  obtain ⟨_, _, _, hpk, _⟩ := Zmg hok hsz hlv hi6 hwa;rw [hpk] at hpf; cases hpf
 ·have hwa := hWS.2 i hws
  have e0 : (q.d.ac.set i text).length = q.d.ac.length := length_set;have e1 : (q.d.aa.ag.set i (q.d.aa.ag.getD i 0 + 1)).length = q.d.aa.ag.length := length_set;have e2 : (q.d.aa.au.set i q.d.av).length = q.d.aa.au.length := length_set;refine ⟨⟨q.a0, q.c0, q.a1, q.c1, q.a2, q.c2, q.a4, q.c4, q.a6, q.c6, q.d.putAt i (q.d.ac.set i text)⟩, _, rfl, by rw [Ub hi6 hwa] <;> rfl, ?_, ?_⟩
  ·rw [Ub hi6 hwa]; dsimp only [Za.putAt]; rw [e0, e1, e2, Ze4 hpt]
  ·refine St.sqIn ?_
   show St w0 ([Zg Zu 1 _ (.slice q.a0 (q.d.ac.set i text).length q.c0) (q.d.ac.set i text), Zg ZG 1 _ (.slice q.a1 (q.d.aa.ag.set i (q.d.aa.ag.getD i 0 + 1)).length q.c1) (q.d.aa.ag.set i (q.d.aa.ag.getD i 0 + 1)), Zg ZG 1 _ (.slice q.a2 (q.d.aa.au.set i q.d.av).length q.c2) (q.d.aa.au.set i q.d.av), _, _] ++ F) w';rw [e0, e1, e2]; exact hs1
theorem ZcI {l : List PtrD} (h : l.length ≤ 4) : (fanB l).size ≤ 4398046511108 := by
 have := ZdG (l.map Z4) ZlZ (Znv l);rw [length_map] at this;have e : ZlZ.size = 1 := rfl;rw [e] at this;have h2 : l.length * (1 + 1099511627776) ≤ 4 * (1 + 1099511627776) := Nat.mul_le_mul_right _ h;unfold fanB; omega
theorem JH {xs : List PtrD} {i : Nat} (hi : i < xs.length) : xs.take (i + 1) = xs.take i ++ [xs.getD i PtrD.zero] := by
 rw [List.take_succ_eq_append_getElem hi, getD_eq_getElem?_getD, getElem?_eq_getElem hi]; rfl
theorem Zem {xs : List PtrD} {i : Nat} (hi : i < xs.length) (h0 : i = 0) : fanB (xs.take i) ++ Z4 (xs.getD i PtrD.zero) = fanB (xs.take (i + 1)) := by
 subst h0;rw [JH hi];unfold fanB;rw [List.take_zero, nil_append, List.map_nil, map_cons, List.map_nil, Zkw, Zkx];exact ByteArray.ext (by simp)
theorem ZfH {xs : List PtrD} {i : Nat} (hi : i < xs.length) (h0 : 0 < i) : (fanB (xs.take i) ++ (⟨#[44]⟩ : ByteArray)) ++ Z4 (xs.getD i PtrD.zero) = fanB (xs.take (i + 1)) := by
 rw [JH hi];unfold fanB;obtain ⟨a, r, e⟩ : ∃ a r, xs.take i = a :: r := by
  cases h : xs.take i with
  | nil => have := congrArg List.length h; rw [length_take, length_nil] at this; omega
  | cons a r => exact ⟨a, r, rfl⟩
 rw [e, List.map_append, map_cons, map_cons, List.map_nil, ZiM]; rfl
theorem U3 {xs : List PtrD} {i : Nat} (hi : i < xs.length) (f : PtrD → Bool) : (xs.take (i + 1)).any f = ((xs.take i).any f || f (xs.getD i PtrD.zero)) := by
 rw [JH hi, List.any_append, List.any_cons, List.any_nil, Bool.or_false]
theorem ZnL {xs : List PtrD} : (xs.any fun p => !p.hole) = !(xs.all fun p => p.hole) := by
 induction xs with
 | nil => rfl
 | cons p r ih => rw [List.any_cons, List.all_cons, ih, Bool.not_and]
theorem ZfI {xs : List PtrD} {i : Nat} (hi : i < xs.length) (f : PtrD → Bool) : (xs.take (i + 1)).all f = ((xs.take i).all f && f (xs.getD i PtrD.zero)) := by
 rw [JH hi, List.all_append, List.all_cons, List.all_nil, Bool.and_true]
theorem Zmx {xs : List PtrD} {i : Nat} {f : PtrD → Bool} (h : (xs.take i).all f = false) : xs.all f = false := by
 rw [← List.take_append_drop i xs, List.all_append, h, Bool.false_and]
theorem ZiS (ao : Option Addr) (n cap : Nat) (xs : List PtrD) (w0 : World) (hnl : n ≤ 1048576) (hR : Rd PtrD.cells 5 w0 ao n xs) : Calls prog 196 #[.slice ao n cap] w0 fun e w' => e = .returned (.bool (xs.all fun p => p.hole)) ∧ Below w0.heap.size w0 w' := by
 have hn := hR.len;obtain ⟨g0, o0, r0⟩ := hR.opn; have R0 := Bx.mk r0; clear r0;have E := Bx.mk (St.start w0);refine ent func196 ntmps196 ?_;refine xsr<|xr 1 rfl<|xne<|xsq<|xsr<|xr 1 rfl<|xne<|xbl ?_;intro a J;refine Zt (ι := Nat) (fun i a w => (i ≤ n ∧ (xs.take i).all (fun p => p.hole) = true) ∧ Fr 16 a [(0, .slice ao n cap), (3, .int .i64 (i : Int))] ∧ St w0 ([]) w) (fun i => n - i) 0 ⟨⟨Nat.zero_le _, rfl⟩, J.ls _, E.o⟩ ?_;clear J E; clear a;rintro i a w1 ⟨⟨hi, hal⟩, J, E⟩;replace E := Bx.mk E;revert a;refine xsq<|xsr<|xr 2 rfl<|xy rfl (vn 24 5 rfl)<|xr 1 rfl<|xne<|xcd 7 rfl (fun _ dcc1=>?_) fun _ dcc1=>?_
 refine xct rfl<|xsk<|xet<|xsq<|xbl<|xsr<|xr 2 rfl<|xy rfl (vxr 24 i 5 rfl (R0.out.ao i (by omega)))<|xy rfl (fun a J=>ylr (cs := pL (xs.getD i PtrD.zero)) rfl (J.ev rfl) (R0.out.elem E.o (Zi (xs := xs) (j := i) (d := PtrD.zero) (by omega)))) ?_;refine ycB (ZA (xs.getD i PtrD.zero) _) func26 E ?_;clear E;intro w2 E;refine xr 1 rfl<|xne<|xcs 15 rfl (fun cc2=>?_) fun cc2=>?_;refine xct rfl<|xsr<|xr 1 rfl<|xne<|xre<|xbr<|xtr<|xtr<|xbr<|xtr<|xb1 results196 rfl ?_;have hA : xs.all (fun p => p.hole) = false := Zmx (i := i + 1) (by rw [ZfI (by omega), show (xs.getD i PtrD.zero).hole = false from (by simpa using cc2), Bool.and_false]);exact ⟨by rw [hA], E.o.bel⟩;refine xcf rfl<|xsk<|xeb<|xet<|xrl<|xr 1 rfl<|xy rfl (vad rfl)<|xr 1 rfl<|xne ?_;have hst : (xs.take (i + 1)).all (fun p => p.hole) = true := by rw [ZfI (by omega), hal, show (xs.getD i PtrD.zero).hole = true from (by simpa using cc2)]; rfl
 intro a J;exact ⟨i + 1, ⟨⟨by omega, hst⟩, J.less _ ⟨rfl, rfl, trivial⟩, E.o⟩, (by omega)⟩;refine xcf rfl<|xex<|xtx<|xtx<|xbh<|xet<|xsr<|xr 1 rfl<|xne<|xre<|xb1 results196 rfl ?_;have hA : xs.all (fun p => p.hole) = true := (by rw [List.take_of_length_le (by omega)] at hal; exact hal);exact ⟨by rw [hA], E.o.bel⟩
theorem Zen (ao : Option Addr) (cap : Nat) (xs : List PtrD) (w0 : World) (hR : Rd PtrD.cells 5 w0 ao 4 xs) (hok : ∀ p ∈ xs, p.ok = true) (hall : xs.all (fun p => p.hole) = false) : Calls prog 197 #[.slice ao 4 cap] w0 fun e w' => e = .returned (.tuple #[.string (fanB xs), .bool true]) ∧ Below w0.heap.size w0 w' := by
 have hn := hR.len;obtain ⟨g0, o0, r0⟩ := hR.opn; have R0 := Bx.mk r0; clear r0;have E := Bx.mk (St.start w0);refine ent func197 ntmps197 ?_;refine xsr<|xr 2 rfl<|xne<|xsr<|xr 1 rfl<|xne<|xsr<|xr 1 rfl<|xne<|xsq<|xsr<|xr 1 rfl<|xy rfl (vn 24 5 rfl)<|xr 1 rfl<|xne ?_;intro a J;replace J := J.know (k := 9) (c := false) rfl (by decide);revert a;refine xcf rfl<|xsk<|xet<|xsq<|xsr<|xr 1 rfl<|xne<|xbl ?_;intro a J;refine Zt (ι := Nat) (fun i a w => (i ≤ 4 ∧ (fanB (xs.take i)).size ≤ 4398046511108) ∧ Fr 45 a [(0, .slice ao 4 cap), (4, .string (fanB (xs.take i))), (5, .bool ((xs.take i).any fun p => !p.hole)), (6, .int .i64 (i : Int))] ∧ St w0 ([]) w) (fun i => 4 - i) 0 ⟨⟨Nat.zero_le _, ZcI (by simp)⟩, J.less _ ⟨rfl, rfl, rfl, rfl, trivial⟩, E.o⟩ ?_;clear J E; clear a;rintro i a w1 ⟨⟨hi, hfs⟩, J, E⟩;replace E := Bx.mk E;have hpl := ZbK (xs.getD i PtrD.zero);revert a;refine xsq<|xsr<|xr 2 rfl<|xy rfl (vn 24 5 rfl)<|xr 1 rfl<|xne<|xcd 13 rfl (fun _ dcc1=>?_) fun _ dcc1=>?_
 refine xct rfl<|xsk<|xet<|xsq<|xbl<|xsq<|xsr<|xr 2 rfl<|xy rfl (vxr 24 i 5 rfl (R0.out.ao i (by omega)))<|xy rfl (fun a J=>ylr (cs := pL (xs.getD i PtrD.zero)) rfl (J.ev rfl) (R0.out.elem E.o (Zi (xs := xs) (j := i) (d := PtrD.zero) (by omega)))) ?_;refine ycB (ZR (xs.getD i PtrD.zero) _) func24 E ?_;clear E;intro w2 E;refine xr 1 rfl<|xne<|xcs 21 rfl (fun cc2=>?_) fun cc2=>?_;have h9 := hok _ (YN (xs := xs) (i := i) (by omega)); rw [h9] at cc2; cases cc2;refine xcf rfl<|xsk<|xet<|xsr<|xr 2 rfl<|xcs 23 rfl (fun cc3=>?_) fun cc3=>?_;refine xr 8 rfl<|xne<|xsq<|xsr<|xr 2 rfl<|xne<|xcd 32 rfl (fun _ dcc4=>?_) fun _ dcc4=>?_;refine xct rfl<|xrl<|xr 1 rfl<|xy rfl (fun a J=>ZB rfl (J.ev rfl) (J.ev rfl) (by (try simp only [YK, Zl]); omega))<|xr 1 rfl<|xne<|xrl<|xr 3 rfl<|xy rfl (vxr 24 i 5 rfl (R0.out.ao i (by omega)))<|xy rfl (fun a J=>ylr (cs := pL (xs.getD i PtrD.zero)) rfl (J.ev rfl) (R0.out.elem E.o (Zi (xs := xs) (j := i) (d := PtrD.zero) (by omega)))) ?_;refine ycB (Jj (xs.getD i PtrD.zero) _) func32 E ?_;clear E;intro w3 E;refine xy rfl (fun a J=>ZB rfl (J.ev rfl) (J.ev rfl) (by (try simp only [YK, Zl]); omega))<|xr 1 rfl<|xni<|xeb<|xet<|xrl<|xr 1 rfl<|xy rfl (vad rfl)<|xr 1 rfl<|xne ?_;have hfan := ZfH (xs := xs) (i := i) (by omega) (by omega);have hany := U3 (xs := xs) (i := i) (by omega) (fun p => !p.hole);rw [cc3] at hany; simp only [Bool.true_or] at hany;intro a J;exact ⟨i + 1, ⟨⟨by omega, ZcI (by rw [length_take]; omega)⟩, J.less _ ⟨rfl, (congrArg (fun z => some (Value.string z)) hfan), (congrArg (fun z => some (Value.bool z)) hany.symm), rfl, trivial⟩, E.o⟩, (by omega)⟩;refine xcf rfl<|xsk<|xet<|xrl<|xr 3 rfl<|xy rfl (vxr 24 i 5 rfl (R0.out.ao i (by omega)))<|xy rfl (fun a J=>ylr (cs := pL (xs.getD i PtrD.zero)) rfl (J.ev rfl) (R0.out.elem E.o (Zi (xs := xs) (j := i) (d := PtrD.zero) (by omega)))) ?_;refine ycB (Jj (xs.getD i PtrD.zero) _) func32 E ?_;clear E;intro w4 E;refine xy rfl (fun a J=>ZB rfl (J.ev rfl) (J.ev rfl) (by (try simp only [YK, Zl]); omega))<|xr 1 rfl<|xni<|xeb<|xet<|xrl<|xr 1 rfl<|xy rfl (vad rfl)<|xr 1 rfl<|xne ?_;have hfan := Zem (xs := xs) (i := i) (by omega) (by omega);have hany := U3 (xs := xs) (i := i) (by omega) (fun p => !p.hole);rw [cc3] at hany; simp only [Bool.true_or] at hany;intro a J;exact ⟨i + 1, ⟨⟨by omega, ZcI (by rw [length_take]; omega)⟩, J.less _ ⟨rfl, (congrArg (fun z => some (Value.string z)) hfan), (congrArg (fun z => some (Value.bool z)) hany.symm), rfl, trivial⟩, E.o⟩, (by omega)⟩;refine xr 2 rfl<|xy rfl (vxr 24 i 5 rfl (R0.out.ao i (by omega)))<|xy rfl (fun a J=>ylr (cs := pL (xs.getD i PtrD.zero)) rfl (J.ev rfl) (R0.out.elem E.o (Zi (xs := xs) (j := i) (d := PtrD.zero) (by omega)))) ?_;refine VJ (ZA (xs.getD i PtrD.zero) _) func26 E ?_;clear E;intro w5 E;refine xr 3 rfl<|xne<|xsq<|xsr<|xr 2 rfl<|xne<|xcd 32 rfl (fun _ dcc5=>?_) fun _ dcc5=>?_;refine xct rfl<|xrl<|xr 1 rfl<|xy rfl (fun a J=>ZB rfl (J.ev rfl) (J.ev rfl) (by (try simp only [YK, Zl]); omega))<|xr 1 rfl<|xne<|xrl<|xr 3 rfl<|xy rfl (vxr 24 i 5 rfl (R0.out.ao i (by omega)))<|xy rfl (fun a J=>ylr (cs := pL (xs.getD i PtrD.zero)) rfl (J.ev rfl) (R0.out.elem E.o (Zi (xs := xs) (j := i) (d := PtrD.zero) (by omega)))) ?_;refine ycB (Jj (xs.getD i PtrD.zero) _) func32 E ?_;clear E;intro w6 E;refine xy rfl (fun a J=>ZB rfl (J.ev rfl) (J.ev rfl) (by (try simp only [YK, Zl]); omega))<|xr 1 rfl<|xni<|xeb<|xet<|xrl<|xr 1 rfl<|xy rfl (vad rfl)<|xr 1 rfl<|xne ?_;have hfan := ZfH (xs := xs) (i := i) (by omega) (by omega);have hany := U3 (xs := xs) (i := i) (by omega) (fun p => !p.hole);rw [cc3] at hany; simp only [Bool.false_or] at hany;intro a J;exact ⟨i + 1, ⟨⟨by omega, ZcI (by rw [length_take]; omega)⟩, J.less _ ⟨rfl, (congrArg (fun z => some (Value.string z)) hfan), (congrArg (fun z => some (Value.bool z)) hany.symm), rfl, trivial⟩, E.o⟩, (by omega)⟩;refine xcf rfl<|xsk<|xet<|xrl<|xr 3 rfl<|xy rfl (vxr 24 i 5 rfl (R0.out.ao i (by omega)))<|xy rfl (fun a J=>ylr (cs := pL (xs.getD i PtrD.zero)) rfl (J.ev rfl) (R0.out.elem E.o (Zi (xs := xs) (j := i) (d := PtrD.zero) (by omega)))) ?_;refine ycB (Jj (xs.getD i PtrD.zero) _) func32 E ?_;clear E;intro w7 E;refine xy rfl (fun a J=>ZB rfl (J.ev rfl) (J.ev rfl) (by (try simp only [YK, Zl]); omega))<|xr 1 rfl<|xni<|xeb<|xet<|xrl<|xr 1 rfl<|xy rfl (vad rfl)<|xr 1 rfl<|xne ?_;have hfan := Zem (xs := xs) (i := i) (by omega) (by omega);have hany := U3 (xs := xs) (i := i) (by omega) (fun p => !p.hole);rw [cc3] at hany; simp only [Bool.false_or] at hany;intro a J;exact ⟨i + 1, ⟨⟨by omega, ZcI (by rw [length_take]; omega)⟩, J.less _ ⟨rfl, (congrArg (fun z => some (Value.string z)) hfan), (congrArg (fun z => some (Value.bool z)) hany.symm), rfl, trivial⟩, E.o⟩, (by omega)⟩;refine xcf rfl<|xex<|xtx<|xtx<|xbh<|xet<|xsq<|xsr<|xr 2 rfl<|xne<|xcs 43 rfl (fun cc6=>?_) fun cc6=>?_;refine xct rfl<|xsr<|xr 2 rfl<|xne<|xre<|xtr<|xb2 results197 rfl rfl ?_;have h9 : (xs.take i).any (fun p => !p.hole) = false := by simpa using cc6
 rw [List.take_of_length_le (by omega), ZnL, hall] at h9; cases h9;refine xcf rfl<|xsk<|xet<|xsr<|xr 3 rfl<|xne<|xre<|xb2 results197 rfl rfl ?_;have hx9 : xs.take i = xs := List.take_of_length_le (by omega);exact ⟨by rw [hx9], E.o.bel⟩
theorem ZhK (a0 : Option Addr) (c0 : Nat) (a1 : Option Addr) (c1 : Nat) (a2 : Option Addr) (c2 : Nat) (a4 : Option Addr) (c4 : Nat) (a6 : Option Addr) (c6 : Nat) (st : Za) (t : Ze) (hkid : t.aw = 2 → t.af.hole = false → kidsS st t.af 2 ≠ none) (w0 : World) (hR : Rd Zu 1 w0 a0 st.ac.length st.ac) (hrow : Xv st) : Calls prog 181 #[sV a0 c0 a1 c1 a2 c2 a4 c4 a6 c6 st, tV t] w0 fun e w' => ∃ ao cp, e = .returned (.slice ao (ZH st t).length cp) ∧ St w0 [Zg PtrD.cells 5 24 (.slice ao (ZH st t).length cp) (ZH st t)] w' := by
 have HR := Bx.mk hR; clear hR;have E := Bx.mk (St.start w0);refine ent func181 ntmps181 ?_;refine xsr ?_;refine ybx E ?_;clear E;intro w1 b1 E;refine ybx E ?_;clear E;intro w2 b2 E;refine xr 1 rfl<|xne<|xsr ?_;refine yem 24 5 E ?_;clear E;intro w3 b3 E;refine xr 1 rfl<|xne<|xsq<|xsr<|Xf 5 rfl<|Xl 0 E rfl rfl<|xr 2 rfl<|xce 13 rfl (fun cc1 dcc1=>?_) fun cc1 dcc1=>?_;refine xr 4 rfl<|xne<|xct rfl<|xsr<|xr 2 rfl<|xne<|xre<|xtr<|xb1 results181 rfl ?_;have hI : ZH st t = [] := if_pos (by first | exact .inl (by omega) | exact .inr (by simpa using cc1));exact ⟨(some ⟨b3, 0, none⟩), 0, by rw [hI]; rfl, by rw [hI]; exact ((((E.o).nilRow PtrD.cells 5 24 (some ⟨b3, 0, none⟩)).erase 2).erase 1)⟩;refine Xf 0 rfl<|Xw 0 5 E rfl rfl ?_;refine VJ (ZA t.af _) func26 E ?_;clear E;intro w4 E;refine xr 1 rfl<|xne<|xcs 17 rfl (fun cc2=>?_) fun cc2=>?_;refine xct rfl<|xsr<|xr 2 rfl<|xne<|xre<|xtr<|xb1 results181 rfl ?_;have hI : ZH st t = [] := if_pos (by first | exact .inl (by omega) | exact .inr (by simpa using cc2));exact ⟨(some ⟨b3, 0, none⟩), 0, by rw [hI]; rfl, by rw [hI]; exact ((((E.o).nilRow PtrD.cells 5 24 (some ⟨b3, 0, none⟩)).erase 2).erase 1)⟩;have hnh := cc2;refine xcf rfl<|xsk<|xet<|xsr<|xr 1 rfl<|Xf 0 rfl<|Xw 0 5 E rfl rfl ?_;refine ybs PtrD.cells 24 5 [t.af] E ?_;clear E;intro b4 w5 E;replace E := Bx.mk (E.o.nilRow PtrD.cells 5 24 (some ⟨b3, 0, none⟩));refine yap Xu PtrD.cells_len E 0 (St.rdN E.o PtrD.cells_len 1 rfl) (Zz _) ?_;clear E;intro ao6 cp7 w6 E;refine xr 1 rfl<|xne<|xsq<|xsr<|Xf 5 rfl<|Xl 2 E rfl rfl<|xr 1 rfl<|xne<|xce 26 rfl (fun _ dcc3=>?_) fun _ dcc3=>?_;refine xct rfl<|xsr<|Xw 3 8 E rfl rfl<|Xf 0 rfl<|Xw 2 5 E rfl rfl ?_;refine yc (Up a0 c0 a1 c1 a2 c2 a4 c4 a6 c6 st t.af 2 _ (HR.out.below E.o.bel) hrow) func165 ?_;rintro _ w7 (⟨l8, hk8, ao8, cp8, rfl, hs1⟩ | ⟨hk8, ao8, nn8, cp8, rfl, hb⟩);have hll8 := Qd hk8;refine ⟨_, rfl, ?_⟩; replace E := E.ad hs1;clear hs1;refine xr 5 rfl<|xne<|xsr<|xr 1 rfl<|xne<|xbl ?_;have hz9 : ([] : List PtrD).length + ([t.af]).length = (([]) ++ ([t.af])).length := by simp only [length_append, length_nil, length_cons]
 intro a J;rw [hz9] at E J;replace E:=E.pks [1];refine Zt (ι := Nat) (fun i a w => ∃ (ao : Option Addr) (cp : Nat) (os : List PtrD), (i ≤ l8.length ∧ os = [t.af] ++ (l8.take i).filter (fun p => !p.hole)) ∧ Fr 54 a [(2, .pointer (some ⟨b1, 0, none⟩)), (3, .pointer (some ⟨b2, 0, none⟩)), (6, .slice ao8 l8.length cp8), (5, .slice ao os.length cp), (8, .int .i64 (i : Int))] ∧ St w0 ([Zg PtrD.cells 5 24 (.slice ao os.length cp) os, Zg PtrD.cells 5 24 (.slice ao8 l8.length cp8) l8, Zg PtrD.cells 5 24 (.slice (some ⟨b4, 0, none⟩) 1 1) ([t.af]), boxA b2 7 26 (tV t), boxA b1 8 44 (sV a0 c0 a1 c1 a2 c2 a4 c4 a6 c6 st)]) w) (fun i => l8.length - i) 0 ⟨_, _, _, ⟨Nat.zero_le _, by rw [List.take_zero]; rfl⟩, J.less _ ⟨rfl, rfl, rfl, rfl, rfl, trivial⟩, E.o⟩ ?_;clear J E; clear a;rintro i a w8 ⟨ao, cp, os, ⟨hi, hos⟩, J, E⟩;replace E := Bx.mk E;have hol : os.length ≤ 5 := by rw [hos, length_append]; have h9 := List.length_filter_le (fun p : PtrD => !p.hole) (l8.take i); rw [length_take] at h9; simp only [length_singleton]; omega
 revert a;refine xsq<|xsr<|xr 2 rfl<|xy rfl (vn 24 5 rfl)<|xr 1 rfl<|xne<|xcd 37 rfl (fun _ dcc4=>?_) fun _ dcc4=>?_
 refine xct rfl<|xsk<|xet<|xsq<|xbl<|xsq ?_;replace E:=E.pks [4,4,4,4,4];obtain ⟨g10, rfl, _, _, _, _⟩ := E.o.rowOpen 1 rfl (by omega);refine xrl<|xr 2 rfl<|xy rfl (vx 24 i 5 rfl)<|xy rfl (fun a J=>ylr (cs := pL (l8.getD i PtrD.zero)) rfl (J.ev rfl) (E.o.elem PtrD.cells_len 1 rfl (Zi (xs := l8) (j := i) (d := PtrD.zero) (by omega)))) ?_;refine ycB (ZA (l8.getD i PtrD.zero) _) func26 E ?_;clear E;intro w9 E;refine xr 1 rfl<|xne<|xcs 45 rfl (fun cc5=>?_) fun cc5=>?_;refine xct rfl<|xrl<|xr 3 rfl<|xy rfl (vx 24 i 5 rfl)<|xy rfl (fun a J=>ylr (cs := pL (l8.getD i PtrD.zero)) rfl (J.ev rfl) (E.o.elem PtrD.cells_len 1 rfl (Zi (xs := l8) (j := i) (d := PtrD.zero) (by omega)))) ?_;refine ybs PtrD.cells 24 5 [(l8.getD i PtrD.zero)] E ?_;clear E;intro b11 w10 E;refine yap Xu PtrD.cells_len E 1 (St.rdN E.o PtrD.cells_len 0 rfl) (Zz _) ?_;clear E;intro ao12 cp13 w11 E;refine xr 1 rfl<|xni<|xeb<|xet<|xrl<|xr 1 rfl<|xy rfl (vad rfl)<|xr 1 rfl<|xne ?_;have hz14 : os.length + ([(l8.getD i PtrD.zero)]).length = (os ++ ([(l8.getD i PtrD.zero)])).length := by simp only [length_append, length_nil, length_cons]
 intro a J;rw [hz14] at E J;have hh9 : (l8.getD i PtrD.zero).hole = false := by simpa using cc5
 have hst : (l8.take (i + 1)).filter (fun p => !p.hole) = (l8.take i).filter (fun p => !p.hole) ++ [(l8.getD i PtrD.zero)] := by rw [JH (by omega), filter_append, List.filter_cons, List.filter_nil, hh9]; simp
 replace E:=E.pks [5,5,5,5,5];exact ⟨i + 1, ⟨_, _, _, ⟨by omega, by rw [hst, hos]; simp⟩, J.less _ ⟨rfl, rfl, rfl, rfl, rfl, trivial⟩, (E.o.erase 5)⟩, (by omega)⟩;refine xcf rfl<|xsk<|xeb<|xet<|xrl<|xr 1 rfl<|xy rfl (vad rfl)<|xr 1 rfl<|xne ?_;have hh9 : (l8.getD i PtrD.zero).hole = true := by simpa using cc5
 have hst : (l8.take (i + 1)).filter (fun p => !p.hole) = (l8.take i).filter (fun p => !p.hole) := by rw [JH (by omega), filter_append, List.filter_cons, List.filter_nil, hh9]; simp
 intro a J;exact ⟨i + 1, ⟨_, _, _, ⟨by omega, by rw [hst, hos]⟩, J.less _ ⟨rfl, rfl, rfl, rfl, rfl, trivial⟩, E.o⟩, (by omega)⟩;refine xcf rfl<|xex<|xtx<|xtx<|xbh<|xet<|xsr<|xr 2 rfl<|xne<|xre<|xb1 results181 rfl ?_;have hI : ZH st t = os := by unfold ZH; rw [if_neg (fun h => h.elim (fun h => by omega) (fun h => by rw [hnh] at h; cases h)), if_pos (by omega), hk8, hos, List.take_of_length_le (by omega)]; rfl
 exact ⟨_, _, by rw [hI] <;> rfl, by rw [hI]; exact (E.o.erS [4,3,2,1])⟩;exact absurd hk8 (hkid (by omega) (by simpa using hnh));refine xcf rfl<|xsk<|xet<|xsr<|xr 2 rfl<|xne<|xre<|xb1 results181 rfl ?_;have hI : ZH st t = [t.af] := by unfold ZH; rw [if_neg (fun h => h.elim (fun h => by omega) (fun h => by rw [hnh] at h; cases h)), if_neg (by omega)]
 have hz9 : ([] : List PtrD).length + ([t.af]).length = [t.af].length := by simp only [length_append, length_nil, length_cons]
 exact ⟨_, _, by rw [hI, ← hz9] <;> rfl, by rw [hI, ← hz9]; exact (E.o.erS [3,2,1])⟩
theorem ZkE (a0 : Option Addr) (c0 : Nat) (a1 : Option Addr) (c1 : Nat) (a2 : Option Addr) (c2 : Nat) (a4 : Option Addr) (c4 : Nat) (a6 : Option Addr) (c6 : Nat) (st : Za) (t : Ze) (dp lv : Nat) (w0 : World) (hR : Rd Zu 1 w0 a0 st.ac.length st.ac) (hrow : Xv st) : Calls prog 182 #[sV a0 c0 a1 c1 a2 c2 a4 c4 a6 c6 st, tV t, .int .i64 (dp : Int), .int .i64 (lv : Int)] w0 fun e w' => ∃ ao cp, e = .returned (.slice ao (Ye st t dp lv).length cp) ∧ St w0 [Zg PtrD.cells 5 24 (.slice ao (Ye st t dp lv).length cp) (Ye st t dp lv)] w' := by
 have HR := Bx.mk hR; clear hR;have E := Bx.mk (St.start w0);refine ent func182 ntmps182 ?_;refine xsr ?_;refine ybx E ?_;clear E;intro w1 b1 E;refine ybx E ?_;clear E;intro w2 b2 E;refine xr 1 rfl<|xne<|xsq<|xsr<|Xf 5 rfl<|Xl 0 E rfl rfl<|xr 2 rfl<|xne<|xcn 14 rfl (fun _ dcc1=>?_) fun _ dcc1=>?_;refine xct rfl<|xsr ?_;refine yc (Uo 4 (by omega) _) func133 ?_;rintro _ w3 ⟨ao3, cp3, rfl, hs⟩;refine ⟨_, rfl, ?_⟩;replace E := E.ad hs;clear hs;refine xr 1 rfl<|xne<|xre<|xtr<|xb1 results182 rfl ?_;have hO : Ye st t dp lv = replicate 4 PtrD.zero := by unfold Ye; rw [if_neg (by omega)]; rfl
 exact ⟨_, _, by rw [hO] <;> rfl, by rw [hO]; exact (E.o.erS [2,1])⟩;refine xcf rfl<|xsk<|xet<|xsq<|xsr<|xr 3 rfl<|xne<|xce 18 rfl (fun _ dcc2=>?_) fun _ dcc2=>?_;refine xct rfl<|xsr<|Xf 0 rfl<|Xw 0 5 E rfl rfl ?_;refine ybs PtrD.cells 24 5 [t.af] E ?_;clear E;intro b4 w4 E;refine xr 1 rfl<|xne<|xre<|xtr<|xb1 results182 rfl ?_;have hO : Ye st t dp lv = [t.af] := by unfold Ye; rw [if_pos (by omega), if_pos (by omega)]
 exact ⟨_, _, by rw [hO] <;> rfl, by rw [hO]; exact (E.o.erS [2,1])⟩;refine xcf rfl<|xsk<|xet<|xsr<|Xw 1 8 E rfl rfl<|Xf 0 rfl<|Xw 0 5 E rfl rfl<|xr 1 rfl ?_;refine yc (Up a0 c0 a1 c1 a2 c2 a4 c4 a6 c6 st t.af (dp : Int) _ (HR.out.below E.o.bel) hrow) func165 ?_;rintro _ w5 (⟨l5, hk5, ao5, cp5, rfl, hs1⟩ | ⟨hk5, ao5, nn5, cp5, rfl, hb⟩);have hll5 := Qd hk5;refine ⟨_, rfl, ?_⟩; replace E := E.ad hs1;clear hs1;refine xr 5 rfl<|xne<|xsq<|xsr<|xr 2 rfl<|xne<|xcf rfl<|xsk<|xet<|xsr<|xr 2 rfl<|xne<|xre<|xb1 results182 rfl ?_;have hO : Ye st t dp lv = l5 := by unfold Ye; rw [if_pos (by omega), if_neg (by omega), hk5]; rfl
 exact ⟨_, _, by rw [hO] <;> rfl, by rw [hO]; exact (E.o.erS [2,1])⟩;refine ⟨_, rfl, ?_⟩; replace E := Bx.mk (E.o.later hb);clear hb;refine xr 5 rfl<|xne<|xsq<|xsr<|xr 2 rfl<|xne<|xct rfl<|xsr ?_;refine yc (Uo 4 (by omega) _) func133 ?_;rintro _ w6 ⟨ao6, cp6, rfl, hs⟩;refine ⟨_, rfl, ?_⟩;replace E := E.ad hs;clear hs;refine xr 1 rfl<|xne<|xre<|xtr<|xb1 results182 rfl ?_;have hO : Ye st t dp lv = replicate 4 PtrD.zero := by unfold Ye; rw [if_pos (by omega), if_neg (by omega), hk5]; rfl
 exact ⟨_, _, by rw [hO] <;> rfl, by rw [hO]; exact (E.o.erS [2,1])⟩
theorem Zmy {w : World} {g n k : Nat} {L c : List PtrD} (h : Rd PtrD.cells 5 w (some ⟨g, 0, none⟩) n L) (hk : k ≤ n) (hc : (L.drop k).take 4 = c) (hcl : c.length = 4) : Rd PtrD.cells 5 w (some ⟨g, 0 + k * 5, none⟩) 4 c := by
 have h2 := h.dropP hk;subst hc;rw [length_take] at hcl;exact h2.take (by omega)
theorem ZkF (w0 w : World) (d0 : Option Addr) (f0 : Nat) (d1 : Option Addr) (f1 : Nat) (d2 : Option Addr) (f2 : Nat) (d4 : Option Addr) (f4 : Nat) (d6 : Option Addr) (f6 : Nat) (st : Za) (gL cpL kL cpS : Nat) (L c : List PtrD) (lv : Int) (p : PtrD) (F : List Asr) (hkL : kL ≤ L.length) (hc : (L.drop kL).take 4 = c) (hcl : c.length = 4) (hco : ∀ x ∈ c, x.ok = true) (hpo : p.ok = true) (hlv : inB lv 0 2 = true) (hq : st.ok = true) (hS : St w0 (Zg Zu 1 9 (.slice d0 st.ac.length f0) st.ac :: Zg ZG 1 3 (.slice d1 st.aa.ag.length f1) st.aa.ag :: Zg ZG 1 3 (.slice d2 st.aa.au.length f2) st.aa.au :: Zg PtrD.cells 5 24 (.slice d4 st.ak.length f4) st.ak :: Zg PtrD.cells 5 24 (.slice d6 st.ar.length f6) st.ar :: Zg PtrD.cells 5 24 (.slice (some ⟨gL, 0, none⟩) L.length cpL) L :: F) w) : Calls prog 183 #[sV d0 f0 d1 f1 d2 f2 d4 f4 d6 f6 st, .slice (some ⟨gL, 0 + kL * 5, none⟩) 4 cpS, .int .i64 lv, pV p] w fun e w' => ∃ (q' : SQ) (r : ZeR), r = Yh st c lv p ∧ q' = ⟨d0, f0, d1, f1, d2, f2, d4, f4, d6, f6, r.st⟩ ∧ e = .returned (.tuple #[q'.u, pV r.p, .bool r.ok]) ∧ St w0 (q'.asr :: Zg PtrD.cells 5 24 (.slice (some ⟨gL, 0, none⟩) L.length cpL) L :: F) w' := by
 have hOK := Za.ok_spec hq; have hl0 := hOK.rows; have hrow := Xm hq; have hfsz := Zb9 hcl hco; have hfl := ZcI (l := c) (by omega);have E := Bx.mk hS; clear hS;refine ent func183 ntmps183 ?_;refine xsr ?_;refine ybx E ?_;clear E;intro w1 b1 E;refine ybx E ?_;clear E;intro w2 b2 E;refine yal z8 E ?_;clear E;intro w3 b3 E;refine yal z5 E ?_;clear E;intro w4 b4 E;refine xr 1 rfl<|xne<|xsq<|xsr<|xr 1 rfl ?_;refine ycB (ZiS _ 4 _ c _ (by omega) (Zmy (St.rdOf E.o PtrD.cells_len 9 rfl) hkL hc hcl)) func196 E ?_;clear E;intro w5 E;refine xne<|xcs 14 rfl (fun cc1=>?_) fun cc1=>?_;refine xct rfl<|xsr<|Xw 3 8 E rfl rfl<|xy rfl (vb z5 rfl) ?_;refine yst E 1 ?_;clear E;intro w6 E;replace E:=E.nm;refine yst E 0 ?_;clear E;intro w7 E;replace E:=E.nm;refine xr 1 rfl<|xne<|xre<|xtr ?_;intro a J;refine Zx J results183 (J.resBox rfl (E.o.box 1 rfl) (by kernel_rfl)) (J.resBox rfl (E.o.box 0 rfl) (by kernel_rfl)) (J.res rfl) ?_;replace E:=E.pks [9,9,9,9,9,9];exact ⟨⟨d0, f0, d1, f1, d2, f2, d4, f4, d6, f6, st⟩, ⟨st, PtrD.zero, true⟩, (Vm cc1).symm, rfl, rfl, St.sqIn (q := ⟨d0, f0, d1, f1, d2, f2, d4, f4, d6, f6, st⟩) (E.o.erS [9,8,7,6])⟩;have hall := cc1;refine xcf rfl<|xsk<|xet<|xsr<|xr 1 rfl ?_;refine ycB (Zen _ _ c _ (Zmy (St.rdOf E.o PtrD.cells_len 9 rfl) hkL hc hcl) hco hall) func197 E ?_;clear E;intro w8 E;refine xr 5 rfl<|xne<|xsq<|xsq ?_;obtain ⟨g5, rfl, _, _, _, _⟩ := E.o.rowOpen 4 rfl (by omega);refine xrl<|Xw 2 5 E rfl rfl ?_;refine ycB (ZA p _) func26 E ?_;clear E;intro w9 E;refine xr 2 rfl<|xcs 25 rfl (fun cc2=>?_) fun cc2=>?_;have hph : p.hole = false := by simpa using cc2
 have hat := ZiH hpo hph;refine Xw 2 5 E rfl rfl<|xr 1 rfl ?_;refine VJ (Vw p (fanB c) _ (by omega)) func134 E ?_;clear E;intro w10 E;refine xr 2 rfl<|xcs 30 rfl (fun cc3=>?_) fun cc3=>?_;refine Xf 0 rfl<|Xl 3 E rfl rfl<|Xf 0 rfl<|Xl 2 E rfl rfl<|xy rfl (fun a J=>Z1 (e := 9) (i := p.aC.toNat) (size := 1) rfl (J.ev rfl) (J.ev rfl) (by kernel_rfl) (by omega) (by omega))<|xy rfl (fun a J=>ylo (v := .string (st.ac.getD p.aC.toNat ByteArray.empty)) rfl (J.ev rfl) (E.o.elem1 Zf 4 rfl (Zi (xs := st.ac) (j := p.aC.toNat) (d := ByteArray.empty) (by omega)) rfl))<|xr 1 rfl<|xy rfl (fun a J=>Y7 rfl (J.ev rfl) (J.ev rfl))<|xr 1 rfl<|xne<|xcs 39 rfl (fun cc4=>?_) fun cc4=>?_;refine xct rfl<|xsq ?_;refine hld [1,0] E ?_;clear E;intro w11 E M;refine Hw 0 1 8 E rfl rfl<|Hw 1 0 5 E rfl rfl ?_;refine Zk 2 ?_;refine yos 1 [1,0] M ?_;clear E M;intro w12 E M;refine Zk 3 ?_;refine yos 0 [1,0] M ?_;clear E M;intro w13 E M;refine Hp 4 E rfl ?_;refine hdn ?_;replace E := M; clear M;refine xet<|xre<|xtr ?_;intro a J;refine Zx J results183 (J.resBox rfl (E.o.box 1 rfl) (by kernel_rfl)) (J.resBox rfl (E.o.box 0 rfl) (by kernel_rfl)) (J.res rfl) ?_;have hsm : Xn st c p = true := by unfold Xn; simp only [Yt]; (first | (simp only [cc2, cc3, cc4]; rfl) | simp_all)
 replace E:=E.pks [9,9,9,9,9,9];exact ⟨⟨some ⟨g5, 0, none⟩, f0, d1, f1, d2, f2, d4, f4, d6, f6, st⟩, ⟨st, p, true⟩, (Vn hall hsm).symm, rfl, rfl, St.sqIn (q := ⟨some ⟨g5, 0, none⟩, f0, d1, f1, d2, f2, d4, f4, d6, f6, st⟩) (E.o.erS [9,8,7,6])⟩;refine xcf rfl<|xsk<|xet<|xsr<|Xw 3 8 E rfl rfl<|xr 2 rfl ?_;replace E:=E.pks [8,8,8,8,8];replace E := Bx.mk (St.sqIn (q := ⟨some ⟨g5, 0, none⟩, f0, d1, f1, d2, f2, d4, f4, d6, f6, st⟩) E.o);replace E:=E.pks [0];refine yc (Zca w0 _ ⟨some ⟨g5, 0, none⟩, f0, d1, f1, d2, f2, d4, f4, d6, f6, st⟩ (fanB c) lv _ hq hfsz hlv E.o) func149 ?_;rintro _ w14 ⟨q1, r1, hr1, hq1, rfl, hs1⟩;refine ⟨_, rfl, ?_⟩; replace E := Bx.mk hs1;clear hs1;refine xr 3 rfl ?_;refine yst E 2 ?_;clear E;intro w15 E;replace E:=E.nm;refine yst E 1 ?_;clear E;intro w16 E;replace E:=E.nm;refine xr 1 rfl<|xne<|xre ?_;intro a J;refine Zx J results183 (J.resBox rfl (E.o.box 2 rfl) (by kernel_rfl)) (J.resBox rfl (E.o.box 1 rfl) (by kernel_rfl)) (J.res rfl) ?_;have hsm : Xn st c p = false := by unfold Xn; simp only [Yt]; (first | (simp only [cc2, cc3, cc4]; rfl) | simp_all)
 replace E:=E.pks [5,1];exact ⟨q1, r1, (hr1.trans (Zbj hall hsm).symm), hq1, rfl, (E.o.erS [5,4,3,2])⟩;refine xr 9 rfl<|xne<|xcf rfl<|xsk<|xet<|xsr<|Xw 3 8 E rfl rfl<|xr 2 rfl ?_;replace E:=E.pks [8,8,8,8,8];replace E := Bx.mk (St.sqIn (q := ⟨some ⟨g5, 0, none⟩, f0, d1, f1, d2, f2, d4, f4, d6, f6, st⟩) E.o);replace E:=E.pks [0];refine yc (Zca w0 _ ⟨some ⟨g5, 0, none⟩, f0, d1, f1, d2, f2, d4, f4, d6, f6, st⟩ (fanB c) lv _ hq hfsz hlv E.o) func149 ?_;rintro _ w17 ⟨q1, r1, hr1, hq1, rfl, hs1⟩;refine ⟨_, rfl, ?_⟩; replace E := Bx.mk hs1;clear hs1;refine xr 3 rfl ?_;refine yst E 2 ?_;clear E;intro w18 E;replace E:=E.nm;refine yst E 1 ?_;clear E;intro w19 E;replace E:=E.nm;refine xr 1 rfl<|xne<|xre ?_;intro a J;refine Zx J results183 (J.resBox rfl (E.o.box 2 rfl) (by kernel_rfl)) (J.resBox rfl (E.o.box 1 rfl) (by kernel_rfl)) (J.res rfl) ?_;have hsm : Xn st c p = false := by unfold Xn; simp only [Yt]; (first | (simp only [cc2, cc3]; rfl) | simp_all)
 replace E:=E.pks [5,1];exact ⟨q1, r1, (hr1.trans (Zbj hall hsm).symm), hq1, rfl, (E.o.erS [5,4,3,2])⟩;refine xr 14 rfl<|xne<|xcf rfl<|xsk<|xet<|xsr<|Xw 3 8 E rfl rfl<|xr 2 rfl ?_;replace E:=E.pks [8,8,8,8,8];replace E := Bx.mk (St.sqIn (q := ⟨some ⟨g5, 0, none⟩, f0, d1, f1, d2, f2, d4, f4, d6, f6, st⟩) E.o);replace E:=E.pks [0];refine yc (Zca w0 _ ⟨some ⟨g5, 0, none⟩, f0, d1, f1, d2, f2, d4, f4, d6, f6, st⟩ (fanB c) lv _ hq hfsz hlv E.o) func149 ?_;rintro _ w20 ⟨q1, r1, hr1, hq1, rfl, hs1⟩;refine ⟨_, rfl, ?_⟩; replace E := Bx.mk hs1;clear hs1;refine xr 3 rfl ?_;refine yst E 2 ?_;clear E;intro w21 E;replace E:=E.nm;refine yst E 1 ?_;clear E;intro w22 E;replace E:=E.nm;refine xr 1 rfl<|xne<|xre ?_;intro a J;refine Zx J results183 (J.resBox rfl (E.o.box 2 rfl) (by kernel_rfl)) (J.resBox rfl (E.o.box 1 rfl) (by kernel_rfl)) (J.res rfl) ?_;have hsm : Xn st c p = false := by unfold Xn; simp only [Yt]; (first | (simp only [cc2]; rfl) | simp_all)
 replace E:=E.pks [5,1];exact ⟨q1, r1, (hr1.trans (Zbj hall hsm).symm), hq1, rfl, (E.o.erS [5,4,3,2])⟩
theorem Zmz (w0 w : World) (q : SQ) (gL cpL kL cpS : Nat) (L c : List PtrD) (lv : Int) (p : PtrD) (F : List Asr) (hkL : kL ≤ L.length) (hc : (L.drop kL).take 4 = c) (hcl : c.length = 4) (hco : ∀ x ∈ c, x.ok = true) (hpo : p.ok = true) (hlv : inB lv 0 2 = true) (hq : q.d.ok = true) (hS : St w0 (q.asr :: Zg PtrD.cells 5 24 (.slice (some ⟨gL, 0, none⟩) L.length cpL) L :: F) w) : Calls prog 183 #[.agg #[.slice q.a0 q.d.ac.length q.c0, .slice q.a1 q.d.aa.ag.length q.c1, .slice q.a2 q.d.aa.au.length q.c2, .int .i64 q.d.av, .slice q.a4 q.d.ak.length q.c4, .int .i64 q.d.az, .slice q.a6 q.d.ar.length q.c6, .bool q.d.aA], .slice (some ⟨gL, 0 + kL * 5, none⟩) 4 cpS, .int .i64 lv, .agg #[.int .i64 p.aC, .int .i64 p.al, .int .i64 p.am, .int .i64 p.aB, .int .i64 p.aq]] w fun e w' => ∃ (q' : SQ) (r : ZeR), r = Yh q.d c lv p ∧ q' = { q with d := r.st } ∧ e = .returned (.tuple #[.agg #[.slice q'.a0 q'.d.ac.length q'.c0, .slice q'.a1 q'.d.aa.ag.length q'.c1, .slice q'.a2 q'.d.aa.au.length q'.c2, .int .i64 q'.d.av, .slice q'.a4 q'.d.ak.length q'.c4, .int .i64 q'.d.az, .slice q'.a6 q'.d.ar.length q'.c6, .bool q'.d.aA], .agg #[.int .i64 r.p.aC, .int .i64 r.p.al, .int .i64 r.p.am, .int .i64 r.p.aB, .int .i64 r.p.aq], .bool r.ok]) ∧ St w0 (q'.asr :: Zg PtrD.cells 5 24 (.slice (some ⟨gL, 0, none⟩) L.length cpL) L :: F) w' := ZkF w0 w q.a0 q.c0 q.a1 q.c1 q.a2 q.c2 q.a4 q.c4 q.a6 q.c6 q.d gL cpL kL cpS L c lv p F hkL hc hcl hco hpo hlv hq hS.sqOut
structure Vo (k : Nat) (st : Za) : Prop where
  rows : st.ac.length = 64
  refs : st.aa.ag.length = 64
  last : st.aa.au.length = 64
  lo : ∀ i, -(k : Int) ≤ st.aa.ag.getD i 0 ∧ st.aa.ag.getD i 0 ≤ 900
  gone : st.ak.length ≤ 500000 + k
  dead : st.ar.length ≤ 500000 + k
theorem ZkG (s : Zq) (i j : Nat) (hi : i < s.ag.length) : (s.give i).ag.getD j 0 = if i = j then s.ag.getD i 0 - 1 else s.ag.getD j 0 := X3 hi
theorem Vo.free {k : Nat} {st : Za} (h : Vo k st) {p : PtrD} (hp : p.ok = true) : Vo (k + 1) (st.free p) := by
 have hlo : ∀ i, -((k + 1 : Nat) : Int) ≤ st.aa.ag.getD i 0 ∧ st.aa.ag.getD i 0 ≤ 900 := fun i => by have := h.lo i; omega
 cases hh : p.hole with
 | true => rw [Zcv hh]; exact ⟨h.rows, h.refs, h.last, hlo, by have := h.gone; omega, by have := h.dead; omega⟩
 | false =>
  by_cases h1 : p.al ≤ st.az
  ·rw [Zcw hh h1]; exact ⟨h.rows, h.refs, h.last, hlo, by have := h.gone; show st.ak.length ≤ _; omega, by have := h.dead; show (st.ar ++ [p]).length ≤ _; rw [length_append, length_singleton]; omega⟩
  ·by_cases h2 : p.al < st.av
   ·rw [Zcx hh h1 h2]; exact ⟨h.rows, h.refs, h.last, hlo, by have := h.gone; show (st.ak ++ [p]).length ≤ _; rw [length_append, length_singleton]; omega, by have := h.dead; show st.ar.length ≤ _; omega⟩
   ·rw [Zav hh h1 h2]
    refine ⟨by show (Yu _ _ _).length = 64; rw [XF]; exact h.rows, by show (Zq.give _ _).ag.length = 64; rw [Zq.give_refs]; exact h.refs, by show (Zq.give _ _).au.length = 64; rw [Zq.give_last]; exact h.last, fun i => ?_, by have := h.gone; show st.ak.length ≤ _; omega, by have := h.dead; show st.ar.length ≤ _; omega⟩;obtain ⟨a, h8, ha, e⟩ := Zbd hp hh;show -((k + 1 : Nat) : Int) ≤ (st.aa.give p.aC.toNat).ag.getD i 0 ∧ (st.aa.give p.aC.toNat).ag.getD i 0 ≤ 900;rw [e, Int.toNat_natCast, ZkG _ _ _ (by rw [h.refs]; exact ha)];have := h.lo a; have := h.lo i
    split <;> omega
theorem ZhL {xs : List Int} {i : Nat} {v : Int} (h : i < xs.length) : (xs.set i v)[i]? = some v := List.getElem?_set_self h
theorem ZkH (p : PtrD) (h0 : 0 ≤ p.aC) (h1 : p.aC ≤ 63) : ((List.range 64).map fun i => cnt [p] i).sum = 1 := by
 obtain ⟨a, ha, e⟩ : ∃ a : Nat, a < 64 ∧ p.aC = (a : Int) := ⟨p.aC.toNat, by omega, by omega⟩;have hc : ∀ i, cnt [p] i = if a = i then 1 else 0 := fun i => by
  rw [Y4, Jy, e]
  by_cases h : a = i
  ·rw [if_pos h, if_pos (by omega)]
  ·rw [if_neg h, if_neg (by omega)]
 rw [show (fun i => cnt [p] i) = fun i => if a = i then 1 else 0 from funext hc];clear hc e h0 h1;revert a
 decide
theorem Zdb (f g : Nat → Nat) : ∀ l : List Nat, (l.map fun i => f i + g i).sum = (l.map f).sum + (l.map g).sum
 | [] => rfl
 | x :: r => by simp only [map_cons, List.sum_cons, Zdb f g r]; omega
theorem ZjH : ∀ {ps : List PtrD}, (∀ p ∈ ps, 0 ≤ p.aC ∧ p.aC ≤ 63) → ps.length = ((List.range 64).map fun i => cnt ps i).sum
 | [], _ => by decide
 | p :: r, h => by
  have hp := h p (mem_cons_self ..);have ih := ZjH fun q hq => h q (mem_cons_of_mem _ hq)
  have e : (fun i => cnt (p :: r) i) = fun i => cnt [p] i + cnt r i := funext fun i => by rw [show p :: r = [p] ++ r from rfl, Zj]
  rw [e, Zdb, ZkH p hp.1 hp.2, ← ih, length_cons]; omega
theorem ZmA (f : Nat → Nat) (b : Nat) : ∀ l : List Nat, (∀ i ∈ l, f i ≤ b) → (l.map f).sum ≤ l.length * b
 | [], _ => by simp
 | x :: r, h => by
  have := h x (mem_cons_self ..);have := ZmA f b r fun i hi => h i (mem_cons_of_mem _ hi)
  rw [map_cons, List.sum_cons, length_cons, Nat.succ_mul]; omega
theorem Zgy {st : Za} (h : st.ok = true) : st.ak.length + st.ar.length ≤ 57600 := by
 have hO := Za.ok_spec h;have hP := Zq.ok_spec hO.space;have hin : ∀ {ps : List PtrD} {m : Int}, ps.all (fun p => YI p m) = true → ∀ p ∈ ps, 0 ≤ p.aC ∧ p.aC ≤ 63 := fun {ps m} ha p hp => by
  have := List.all_eq_true.1 ha p hp;unfold YI at this;simp only [Bool.and_eq_true, Bool.not_eq_true', decide_eq_true_eq] at this;have := ZiH this.1 this.2.1
  omega
 have hall : ∀ p ∈ st.ak ++ st.ar, 0 ≤ p.aC ∧ p.aC ≤ 63 := fun p hp => (mem_append.1 hp).elim (hin hO.gone p) (hin hO.dead p)
 have e := ZjH hall;rw [length_append] at e;rw [e];have := ZmA (fun i => cnt (st.ak ++ st.ar) i) 900 (List.range 64) fun i hi => by
  have := Y1.1 hO.owed i (List.mem_range.1 hi);have := (hP.all i).2
  omega
 rw [List.length_range] at this;exact this
theorem Jz {st : Za} (h : st.ok = true) : Vo 0 st := by
 have hO := Za.ok_spec h;have hP := Zq.ok_spec hO.space;have hl := Zgy h;exact ⟨hO.rows, hP.refs, hP.last, fun i => by have := hP.all i; exact ⟨by omega, this.2⟩, by omega, by omega⟩
theorem Vo.more {k m : Nat} {st : Za} (h : Vo k st) (hm : k ≤ m) : Vo m st := ⟨h.rows, h.refs, h.last, fun i => by have := h.lo i; omega, by have := h.gone; omega, by have := h.dead; omega⟩
theorem St.sqClose {W w : World} {d0 : Option Addr} {f0 : Nat} {d1 : Option Addr} {f1 : Nat} {d2 : Option Addr} {f2 : Nat} {d4 : Option Addr} {f4 : Nat} {d6 : Option Addr} {f6 : Nat} {n0 n1 n2 n4 n6 : Nat} {F : List Asr} (s : Za) (h : St W (Zg Zu 1 9 (.slice d0 n0 f0) s.ac :: Zg ZG 1 3 (.slice d1 n1 f1) s.aa.ag :: Zg ZG 1 3 (.slice d2 n2 f2) s.aa.au :: Zg PtrD.cells 5 24 (.slice d4 n4 f4) s.ak :: Zg PtrD.cells 5 24 (.slice d6 n6 f6) s.ar :: F) w) (h0 : n0 = s.ac.length) (h1 : n1 = s.aa.ag.length) (h2 : n2 = s.aa.au.length) (h4 : n4 = s.ak.length) (h6 : n6 = s.ar.length) : St W (SQ.asr ⟨d0, f0, d1, f1, d2, f2, d4, f4, d6, f6, s⟩ :: F) w := by
 subst h0 h1 h2 h4 h6;exact St.sqIn (q := ⟨d0, f0, d1, f1, d2, f2, d4, f4, d6, f6, s⟩) h
theorem ZkI (w0 w : World) (d1 : Option Addr) (f1 : Nat) (d2 : Option Addr) (f2 : Nat) (s : Zq) (i : Nat) (F : List Asr) (hi : i < 64) (h1 : s.ag.length = 64) (h2 : s.au.length = 64) (hlo : -1000000 ≤ s.ag.getD i 0 ∧ s.ag.getD i 0 ≤ 900) (hS : St w0 (Zg ZG 1 3 (.slice d1 s.ag.length f1) s.ag :: Zg ZG 1 3 (.slice d2 s.au.length f2) s.au :: F) w) : Calls prog 131 #[.agg #[.slice d1 s.ag.length f1, .slice d2 s.au.length f2], .int .i64 (i : Int)] w fun e w' => ∃ (d1 d2 : Option Addr), e = .returned (.agg #[.slice d1 s.ag.length f1, .slice d2 s.au.length f2]) ∧ St w0 (Zg ZG 1 3 (.slice d1 s.ag.length f1) ((s.give i).ag) :: Zg ZG 1 3 (.slice d2 s.au.length f2) ((s.give i).au) :: F) w' := by
 have E := Bx.mk hS; clear hS;refine ent func131 ntmps131 ?_;refine xsr ?_;refine ybx E ?_;clear E;intro w1 b1 E;refine yal [.slice none 0 0, .slice none 0 0] E ?_;clear E;intro w2 b2 E;refine xne<|xsq ?_;obtain ⟨g3, rfl, _, _, _, _⟩ := E.o.rowOpen 2 rfl (by omega);intro a J;refine Vd 10 (by kernel_rfl) (by kernel_rfl) E.o ?_;simp only [List.take_succ_cons, List.take_zero, List.drop_succ_cons, drop_zero];intro w3 E;replace E := Bx.mk E;refine ZU rfl J rfl rfl (yfa 0 rfl (J.ev rfl)) ?_; clear J a; intro a J;refine ZU rfl J rfl rfl (ylo (v := .slice (some ⟨g3, 0, none⟩) s.ag.length f1) rfl (J.ev rfl) (((E.o.box 1 rfl).cell 0).trans rfl)) ?_; clear J a; intro a J;refine ZU rfl J rfl rfl (Y6 rfl (J.ev rfl)) ?_; clear J a; intro a J;refine ZU rfl J rfl rfl (yfa 0 rfl (J.ev rfl)) ?_; clear J a; intro a J;refine ZU rfl J rfl rfl (ylo (v := .slice (some ⟨g3, 0, none⟩) s.ag.length f1) rfl (J.ev rfl) (((E.o.box 1 rfl).cell 0).trans rfl)) ?_; clear J a; intro a J;refine ZU rfl J rfl rfl (Y6 rfl (J.ev rfl)) ?_; clear J a; intro a J;refine ZU rfl J rfl rfl (Z1 (e := 3) (i := i) (size := 1) rfl (J.ev rfl) (J.ev rfl) (by kernel_rfl) rfl (by omega)) ?_; clear J a; intro a J;refine ZU rfl J rfl rfl (ylo (v := .int .i64 (s.ag.getD i 0)) rfl (J.ev rfl) (E.o.elem1 Zp 2 rfl (Zi (xs := s.ag) (j := i) (d := 0) (by omega)) rfl)) ?_; clear J a; intro a J;refine ZU rfl J rfl rfl (ZO rfl (J.ev rfl) (J.ev rfl) (Yi (by omega))) ?_; clear J a; intro a J;refine ZU rfl J rfl rfl (Z1 (e := 3) (i := i) (size := 1) rfl (J.ev rfl) (J.ev rfl) (by kernel_rfl) rfl (by omega)) ?_; clear J a; intro a J;refine wpStill_nil ?_;refine Yj Zp rfl rfl rfl (J.ev rfl) (J.ev rfl) (by kernel_rfl) E.o 2 rfl (by omega) (z := ((s.ag.getD i 0) - 1)) rfl rfl ?_; clear E; intro w4 E; replace E := Bx.mk E;revert a;refine xne<|xsq<|xsr<|Xf 0 rfl<|Xl 1 E rfl rfl<|xr 1 rfl<|xy rfl (vx 3 i 1 rfl)<|xy rfl (fun a J=>ylo (v := .int .i64 (s.ag.getD i 0 - 1)) rfl (J.ev rfl) (E.o.elem1 Zp 2 rfl (ZhL (xs := s.ag) (i := i) (by omega)) rfl))<|xr 1 rfl<|xne<|xce 20 rfl (fun _ dcc1=>?_) fun _ dcc1=>?_
 refine xct rfl ?_;obtain ⟨g4, rfl, _, _, _, _⟩ := E.o.rowOpen 3 rfl (by omega);refine xrl<|Xf 1 rfl<|Xl 1 E rfl rfl<|xr 1 rfl<|xy rfl (vx 3 i 1 rfl) ?_;intro a J;refine Yj Zp rfl rfl rfl (J.ev rfl) (J.ev rfl) (by kernel_rfl) E.o 3 rfl (by omega) (z := 0) rfl rfl ?_; clear E; intro w5 E; replace E := Bx.mk E;revert a;refine xne<|xsr<|Xw 1 2 E rfl rfl ?_;refine yst E 0 ?_;clear E;intro w6 E;replace E:=E.nm;refine xne<|xre ?_;intro a J;refine ZE J results131 (J.resBox rfl (E.o.box 0 rfl) (by kernel_rfl)) ?_;replace E:=E.pks [3,3];have hg : (s.give i).au = s.au.set i 0 := if_pos (by omega);exact ⟨_, _, rfl, by rw [hg]; exact (E.o.erS [3,2])⟩;refine xcf rfl<|xsk<|xet<|xsr<|Xw 1 2 E rfl rfl ?_;refine yst E 0 ?_;clear E;intro w7 E;replace E:=E.nm;refine xne<|xre ?_;intro a J;refine ZE J results131 (J.resBox rfl (E.o.box 0 rfl) (by kernel_rfl)) ?_;replace E:=E.pks [3,3];have hg : (s.give i).au = s.au := if_neg (by omega);exact ⟨_, _, rfl, by rw [hg]; exact (E.o.erS [3,2])⟩
theorem ZkJ (w0 w : World) (d0 : Option Addr) (f0 : Nat) (d1 : Option Addr) (f1 : Nat) (d2 : Option Addr) (f2 : Nat) (d4 : Option Addr) (f4 : Nat) (d6 : Option Addr) (f6 : Nat) (st : Za) (i k : Nat) (F : List Asr) (hi : i < 64) (hK : Vo k st) (hk : k ≤ 1000) (hS : St w0 (Zg Zu 1 9 (.slice d0 st.ac.length f0) st.ac :: Zg ZG 1 3 (.slice d1 st.aa.ag.length f1) st.aa.ag :: Zg ZG 1 3 (.slice d2 st.aa.au.length f2) st.aa.au :: Zg PtrD.cells 5 24 (.slice d4 st.ak.length f4) st.ak :: Zg PtrD.cells 5 24 (.slice d6 st.ar.length f6) st.ar :: F) w) : Calls prog 94 #[sV d0 f0 d1 f1 d2 f2 d4 f4 d6 f6 st, .int .i64 (i : Int)] w fun e w' => ∃ q' : SQ, q'.d = { st with ac := Yu st.ac st.aa i, aa := st.aa.give i } ∧ e = .returned (q'.u) ∧ St w0 (q'.asr :: F) w' := by
 have E := Bx.mk hS; clear hS;have hl0 := hK.rows; have hl1 := hK.refs; have hl2 := hK.last; have hg1 := Zq.give_refs st.aa i;have hgv : (st.aa.give i).ag[i]? = some (st.aa.ag.getD i 0 - 1) := ZhL (by omega);refine ent func94 ntmps94 ?_;refine xsr ?_;refine ybx E ?_;clear E;intro w1 b1 E;refine yal z8 E ?_;clear E;intro w2 b2 E;refine xne<|xsr<|Xf 1 rfl<|Xw 1 2 E rfl rfl<|xr 1 rfl ?_;replace E:=E.pks [4,4];refine yc (ZkI w0 _ d1 f1 d2 f2 st.aa i _ hi hK.refs hK.last (by have := hK.lo i; omega) E.o) func131 ?_;rintro _ w3 ⟨e1, e2, rfl, hs1⟩;refine ⟨_, rfl, ?_⟩; replace E := Bx.mk hs1;clear hs1;refine Xf 1 rfl ?_;intro a J;refine ZZ rfl rfl rfl (J.ev rfl) (J.ev rfl) E.o 3 rfl (by kernel_rfl) rfl (by kernel_rfl) (rs := sL d0 f0 e1 f1 e2 f2 d4 f4 d6 f6 st) rfl ?_; clear E; intro w4 E; replace E := Bx.mk E;replace E:=E.nm;refine Zbx<|wp_seq<|wp_seq ?_;obtain ⟨g3, rfl, _, _, _, _⟩ := E.o.rowOpen 0 rfl (by omega);revert a;refine xrl<|Xf 1 rfl<|Xf 0 rfl<|Xl 3 E rfl rfl<|xr 1 rfl<|xy rfl (vx 3 i 1 rfl)<|xy rfl (fun a J=>ylo (v := .int .i64 (st.aa.ag.getD i 0 - 1)) rfl (J.ev rfl) (E.o.elem1 Zp 0 rfl hgv rfl))<|xr 1 rfl<|xne<|xce 16 rfl (fun _ dcc1=>?_) fun _ dcc1=>?_
 refine xct rfl ?_;obtain ⟨g4, rfl, _, _, _, _⟩ := E.o.rowOpen 4 rfl (by omega);refine xrl<|Xf 0 rfl<|Xl 3 E rfl rfl<|xr 1 rfl<|xy rfl (vx 9 i 1 rfl) ?_;intro a J;refine Yj Zf rfl rfl rfl (J.ev rfl) (J.ev rfl) (by kernel_rfl) E.o 4 rfl (by omega) (z := (⟨#[]⟩ : ByteArray)) rfl rfl ?_; clear E; intro w5 E; replace E := Bx.mk E;revert a;refine xne<|xsr<|Xw 3 8 E rfl rfl ?_;refine yst E 2 ?_;clear E;intro w6 E;replace E:=E.nm;refine xne<|xre ?_;intro a J;refine ZE J results94 (J.resBox rfl (E.o.box 2 rfl) (by kernel_rfl)) ?_;replace E:=E.pks [6,6,3,3,6];have hg : Yu st.ac st.aa i = st.ac.set i ByteArray.empty := if_pos (by omega);exact ⟨⟨_, _, _, _, _, _, _, _, _, _, { st with ac := Yu st.ac st.aa i, aa := st.aa.give i }⟩, rfl, by dsimp only [SQ.u]; rw [XF, Zq.give_refs, Zq.give_last] <;> rfl, St.sqClose _ (by dsimp only [SQ.u]; rw [hg]; exact (E.o.erS [6,5])) (XF _ _ _).symm (Zq.give_refs _ _).symm (Zq.give_last _ _).symm rfl rfl⟩;refine xcf rfl<|xsk<|xet<|xsr<|Xw 3 8 E rfl rfl ?_;refine yst E 2 ?_;clear E;intro w7 E;replace E:=E.nm;refine xne<|xre ?_;intro a J;refine ZE J results94 (J.resBox rfl (E.o.box 2 rfl) (by kernel_rfl)) ?_;replace E:=E.pks [6,6,3,3,6];have hg : Yu st.ac st.aa i = st.ac := if_neg (by omega);exact ⟨⟨_, _, _, _, _, _, _, _, _, _, { st with ac := Yu st.ac st.aa i, aa := st.aa.give i }⟩, rfl, by dsimp only [SQ.u]; rw [XF, Zq.give_refs, Zq.give_last] <;> rfl, St.sqClose _ (by dsimp only [SQ.u]; rw [hg]; exact (E.o.erS [6,5])) (XF _ _ _).symm (Zq.give_refs _ _).symm (Zq.give_last _ _).symm rfl rfl⟩
theorem ZfJ (w0 w : World) (d0 : Option Addr) (f0 : Nat) (d1 : Option Addr) (f1 : Nat) (d2 : Option Addr) (f2 : Nat) (d4 : Option Addr) (f4 : Nat) (d6 : Option Addr) (f6 : Nat) (st : Za) (a : Int) (i k : Nat) (F : List Asr) (ha : a = (i : Int)) (hi : i < 64) (hK : Vo k st) (hk : k ≤ 1000) (hS : St w0 (Zg Zu 1 9 (.slice d0 st.ac.length f0) st.ac :: Zg ZG 1 3 (.slice d1 st.aa.ag.length f1) st.aa.ag :: Zg ZG 1 3 (.slice d2 st.aa.au.length f2) st.aa.au :: Zg PtrD.cells 5 24 (.slice d4 st.ak.length f4) st.ak :: Zg PtrD.cells 5 24 (.slice d6 st.ar.length f6) st.ar :: F) w) : Calls prog 94 #[.agg #[.slice d0 st.ac.length f0, .slice d1 st.aa.ag.length f1, .slice d2 st.aa.au.length f2, .int .i64 st.av, .slice d4 st.ak.length f4, .int .i64 st.az, .slice d6 st.ar.length f6, .bool st.aA], .int .i64 a] w fun e w' => ∃ q' : SQ, q'.d = { st with ac := Yu st.ac st.aa i, aa := st.aa.give i } ∧ e = .returned (.agg #[.slice q'.a0 q'.d.ac.length q'.c0, .slice q'.a1 q'.d.aa.ag.length q'.c1, .slice q'.a2 q'.d.aa.au.length q'.c2, .int .i64 q'.d.av, .slice q'.a4 q'.d.ak.length q'.c4, .int .i64 q'.d.az, .slice q'.a6 q'.d.ar.length q'.c6, .bool q'.d.aA]) ∧ St w0 (q'.asr :: F) w' := by
 subst ha;exact ZkJ w0 w d0 f0 d1 f1 d2 f2 d4 f4 d6 f6 st i k F hi hK hk hS
theorem ZkK (w0 w : World) (d0 : Option Addr) (f0 : Nat) (d1 : Option Addr) (f1 : Nat) (d2 : Option Addr) (f2 : Nat) (d4 : Option Addr) (f4 : Nat) (d6 : Option Addr) (f6 : Nat) (st : Za) (p : PtrD) (k : Nat) (F : List Asr) (hpo : p.ok = true) (hK : Vo k st) (hk : k ≤ 1000) (hS : St w0 (Zg Zu 1 9 (.slice d0 st.ac.length f0) st.ac :: Zg ZG 1 3 (.slice d1 st.aa.ag.length f1) st.aa.ag :: Zg ZG 1 3 (.slice d2 st.aa.au.length f2) st.aa.au :: Zg PtrD.cells 5 24 (.slice d4 st.ak.length f4) st.ak :: Zg PtrD.cells 5 24 (.slice d6 st.ar.length f6) st.ar :: F) w) : Calls prog 151 #[sV d0 f0 d1 f1 d2 f2 d4 f4 d6 f6 st, pV p] w fun e w' => ∃ q' : SQ, q'.d = st.free p ∧ e = .returned (q'.u) ∧ St w0 (q'.asr :: F) w' := by
 have E := Bx.mk hS; clear hS;have hg4 := hK.gone; have hg6 := hK.dead;refine ent func151 ntmps151 ?_;refine xsr ?_;refine ybx E ?_;clear E;intro w1 b1 E;refine ybx E ?_;clear E;intro w2 b2 E;refine yal z8 E ?_;clear E;intro w3 b3 E;refine xne<|xsq<|xbl<|xsr<|Xw 1 5 E rfl rfl ?_;refine ycB (ZA p _) func26 E ?_;clear E;intro w4 E;refine xr 1 rfl<|xne<|xcs 9 rfl (fun cc1=>?_) fun cc1=>?_;refine xct rfl<|xsr<|Xw 2 8 E rfl rfl ?_;refine yst E 0 ?_;clear E;intro w5 E;replace E:=E.nm;refine xne<|xre<|xbr<|xtr ?_;intro a J;refine ZE J results151 (J.resBox rfl (E.o.box 0 rfl) (by kernel_rfl)) ?_;replace E:=E.pks [7,7,7,7,7];exact ⟨⟨d0, f0, d1, f1, d2, f2, d4, f4, d6, f6, st⟩, (Zcv (by assumption)).symm, rfl, St.sqIn (q := ⟨d0, f0, d1, f1, d2, f2, d4, f4, d6, f6, st⟩) (E.o.erS [7,6,5])⟩;have hph := cc1;refine xcf rfl<|xsr<|Xf 1 rfl<|Xl 1 E rfl rfl<|Xf 5 rfl<|Xl 2 E rfl rfl<|xr 2 rfl<|xne<|xcd 13 rfl (fun _ dcc2=>?_) fun _ dcc2=>?_;refine xct rfl<|xrl<|Xf 6 rfl<|Xl 2 E rfl rfl<|Xw 1 5 E rfl rfl ?_;refine ybs PtrD.cells 24 5 [p] E ?_;clear E;intro b4 w6 E;intro a J;refine XE rfl J rfl rfl rfl (J.ev rfl) (J.ev rfl) Xu PtrD.cells_len E.o 8 (xs := st.ar) rfl (ys := [p]) (St.rdN E.o PtrD.cells_len 0 rfl) (Zz _) (by unfold maxLen; simp only [length_singleton]; omega) (by simp only [length_singleton]; omega) ?_; clear J E a; intro ao5 cp6 w7 a J E; replace E := Bx.mk E;revert a;refine Xf 6 rfl ?_;refine ysF 3 E ?_;clear E;intro w8 E;replace E:=E.nm;refine xni<|xeb<|xet<|xsr<|Xw 3 8 E rfl rfl ?_;refine yst E 1 ?_;clear E;intro w9 E;replace E:=E.nm;refine xne<|xre ?_;intro a J;refine ZE J results151 (J.resBox rfl (E.o.box 1 rfl) (by kernel_rfl)) ?_;replace E:=E.pks [8,8,8,8,8];exact ⟨⟨_, _, _, _, _, _, _, _, _, _, { st with ar := st.ar ++ [p] }⟩, (Zcw hph (by omega)).symm, by dsimp only [SQ.u]; rw [length_append] <;> rfl, St.sqClose { st with ar := st.ar ++ [p] } (E.o.erS [8,7,6,5]) rfl rfl rfl rfl (length_append ..).symm⟩;refine xcf rfl<|xsr<|Xf 1 rfl<|Xl 1 E rfl rfl<|Xf 3 rfl<|Xl 2 E rfl rfl<|xr 2 rfl<|xne<|xcd 25 rfl (fun _ dcc3=>?_) fun _ dcc3=>?_;refine xct rfl<|xrl<|Xf 4 rfl<|Xl 2 E rfl rfl<|Xw 1 5 E rfl rfl ?_;refine ybs PtrD.cells 24 5 [p] E ?_;clear E;intro b7 w10 E;intro a J;refine XE rfl J rfl rfl rfl (J.ev rfl) (J.ev rfl) Xu PtrD.cells_len E.o 7 (xs := st.ak) rfl (ys := [p]) (St.rdN E.o PtrD.cells_len 0 rfl) (Zz _) (by unfold maxLen; simp only [length_singleton]; omega) (by simp only [length_singleton]; omega) ?_; clear J E a; intro ao8 cp9 w11 a J E; replace E := Bx.mk E;revert a;refine Xf 4 rfl ?_;refine ysF 3 E ?_;clear E;intro w12 E;replace E:=E.nm;refine xni<|xeb<|xet<|xsr<|Xw 3 8 E rfl rfl ?_;refine yst E 1 ?_;clear E;intro w13 E;replace E:=E.nm;refine xne<|xre ?_;intro a J;refine ZE J results151 (J.resBox rfl (E.o.box 1 rfl) (by kernel_rfl)) ?_;replace E:=E.pks [8,8,8,8,8];exact ⟨⟨_, _, _, _, _, _, _, _, _, _, { st with ak := st.ak ++ [p] }⟩, (Zcx hph (by omega) (by omega)).symm, by dsimp only [SQ.u]; rw [length_append] <;> rfl, St.sqClose { st with ak := st.ak ++ [p] } (E.o.erS [8,7,6,5]) rfl rfl rfl (length_append ..).symm rfl⟩;refine xcf rfl<|xsr<|Xw 2 8 E rfl rfl<|Xf 0 rfl<|Xl 1 E rfl rfl ?_;replace E:=E.pks [7,7,7,7,7];obtain ⟨i, h8, hi, hpi⟩ := Zbd hpo hph;have hi2 : p.aC = ((i : Nat) : Int) := hpi;refine yc (ZfJ w0 _ d0 f0 d1 f1 d2 f2 d4 f4 d6 f6 st p.aC i k _ hpi hi hK hk E.o) func94 ?_;rintro _ w14 ⟨q1, hq1, rfl, hs1⟩;refine ⟨_, rfl, ?_⟩; replace E := Bx.mk hs1;clear hs1;refine yst E 1 ?_;clear E;intro w15 E;replace E:=E.nm;refine xne<|xre<|xbr<|xtr ?_;intro a J;refine ZE J results151 (J.resBox rfl (E.o.box 1 rfl) (by kernel_rfl)) ?_;replace E:=E.pks [0];exact ⟨q1, by rw [hq1, Zav hph (by omega) (by omega), hpi, Int.toNat_natCast], rfl, (E.o.erS [3,2,1])⟩
theorem JI (w0 w : World) (q : SQ) (p : PtrD) (k : Nat) (F : List Asr) (hpo : p.ok = true) (hK : Vo k q.d) (hk : k ≤ 1000) (hS : St w0 (q.asr :: F) w) : Calls prog 151 #[.agg #[.slice q.a0 q.d.ac.length q.c0, .slice q.a1 q.d.aa.ag.length q.c1, .slice q.a2 q.d.aa.au.length q.c2, .int .i64 q.d.av, .slice q.a4 q.d.ak.length q.c4, .int .i64 q.d.az, .slice q.a6 q.d.ar.length q.c6, .bool q.d.aA], .agg #[.int .i64 p.aC, .int .i64 p.al, .int .i64 p.am, .int .i64 p.aB, .int .i64 p.aq]] w fun e w' => ∃ q' : SQ, q'.d = q.d.free p ∧ e = .returned (.agg #[.slice q'.a0 q'.d.ac.length q'.c0, .slice q'.a1 q'.d.aa.ag.length q'.c1, .slice q'.a2 q'.d.aa.au.length q'.c2, .int .i64 q'.d.av, .slice q'.a4 q'.d.ak.length q'.c4, .int .i64 q'.d.az, .slice q'.a6 q'.d.ar.length q'.c6, .bool q'.d.aA]) ∧ St w0 (q'.asr :: F) w' := ZkK w0 w q.a0 q.c0 q.a1 q.c1 q.a2 q.c2 q.a4 q.c4 q.a6 q.c6 q.d p k F hpo hK hk hS.sqOut
section
variable {P : Program} {o : Oper} {a : Act} {w : World} {e : TypeId}
theorem ZhM {t : TypeId} {x y z : Operand} (ho : o.op = .slice t x (some y) (some z) none) {g off n cap : Nat} (hx : a.eval x = .slice (some ⟨g, off, none⟩) n cap) {kk k2 : IntKind} {m m2 : Int} (hy : a.eval y = .int kk m) (hz : a.eval z = .int k2 m2) {size : Nat} (hu : Yv P t = some (e, size)) {k j : Nat} (hm : m = (k : Int)) (hm2 : m2 = ((k + j : Nat) : Int)) (hc : k + j ≤ cap) (hk : k < cap) : Yl P w o a (.slice (some ⟨g, off + k * size, none⟩) j (cap - k)) := by
 unfold Yv at hu
 split at hu
 ·rename_i e' hu'
  split at hu
  ·rename_i inf hq
   simp only [Option.some.injEq, Prod.mk.injEq] at hu;obtain ⟨_, rfl⟩ := hu;subst hm hm2;have h2 : (((k + j : Nat) : Int) ≤ (cap : Int)) := by omega
   have h3 : ¬ cap = k := by omega
   have h4 : (k : Int) ≤ ((k + j : Nat) : Int) := by omega
   unfold Yl execOp;simp only [ho, hx, hy, hz, Option.map_some, Option.map_none, Instr.sliceAt, Instr.slice, Sem.run_bind, run_underlying hu' w, Result.andThen_ok];simp [Instr.slice, Instr.sliceBounds, Instr.sliceBound, asIntOf, go_sem, run_underlying hu' w, sizeOf, typeInfo, hq, h2, h3, h4, Addr.add];rw [if_pos (by omega)]
   by_cases hz : k * inf.size = 0
   ·rw [if_pos hz, hz, Nat.add_zero, if_pos (show k ≤ ((k : Int) + (j : Int)).toNat by omega), show ((k : Int) + (j : Int)).toNat = k + j by omega, Nat.add_sub_cancel_left]
   ·rw [if_neg hz, if_pos (show k ≤ ((k : Int) + (j : Int)).toNat by omega), show ((k : Int) + (j : Int)).toNat = k + j by omega, Nat.add_sub_cancel_left]
  ·cases hu
 ·cases hu
end
theorem ZfK {w : World} {o : Oper} {a : Act} {x y : Operand} {t' : TypeId} (p q : PtrD) (ho : o.op = .binOp .eql 24 x y t') (hx : a.eval x = .agg #[.int .i64 p.aC, .int .i64 p.al, .int .i64 p.am, .int .i64 p.aB, .int .i64 p.aq]) (hy : a.eval y = .agg #[.int .i64 q.aC, .int .i64 q.al, .int .i64 q.am, .int .i64 q.aB, .int .i64 q.aq]) : Yl prog w o a (.bool (p.eqv q)) := by
 have he := ZjD p q 9998 w;unfold Yl execOp;simp only [ho, hx, hy];simp [eqGuard, binOp, go_sem, Op.equal];rw [show Op.maxDepth = 9998 + 2 from rfl, he]; rfl
theorem ZjI {dp lv : Nat} (h : dp ≤ 2) (h1 : 1 ≤ lv) : 4 ^ (dp + 1 - lv) ≤ 16 := by
 rcases (by omega : dp + 1 - lv = 0 ∨ dp + 1 - lv = 1 ∨ dp + 1 - lv = 2) with e | e | e <;> rw [e] <;> decide
theorem ZmB (j : Nat) : replicate j PtrD.zero ++ [PtrD.zero] = replicate (j + 1) PtrD.zero := List.replicate_succ'.symm
structure Zeo (q0 q : SQ) (t : Ze) (dp : Nat) (R : Zdk) (lv : Nat) (ls sy : List PtrD) : Prop where
  lv1 : 1 ≤ lv
  lvd : lv ≤ dp + 1
  hd : q = { q0 with d := q.d }
  gr : Ua q0.d q.d
  ok : q.d.ok = true
  tot : XR t dp (dp + 1 - lv) lv q.d ls sy = R
  oks : ∀ p ∈ ls, p.ok = true
  len : ls.length ≤ 4 ^ (dp + 1 - lv)
  syl : sy.length ≤ 4 * (lv - 1)
structure Zdl (q1 q : SQ) (P W0 : List PtrD) (lv m i : Nat) (RL : Zdk) (nx sy : List PtrD) (b : Nat) : Prop where
  im : i ≤ m
  hd : q = { q1 with d := q.d }
  gr : Ua q1.d q.d
  ok : q.d.ok = true
  tot : Xb (lv : Int) (m - i) (P.drop (i * 4)) (W0.drop i) q.d nx sy = RL
  oks : ∀ p ∈ nx, p.ok = true
  len : nx.length = i
  syl : sy.length ≤ b + i
theorem Zeo.start {q0 : SQ} {t : Ze} {dp : Nat} {ls : List PtrD} (hok : q0.d.ok = true) (ho : ∀ p ∈ ls, p.ok = true) (hl : ls.length ≤ 4 ^ dp) : Zeo q0 q0 t dp (XR t dp dp 1 q0.d ls []) 1 ls [] :=
 ⟨Nat.le_refl _, by omega, rfl, Ua.refl _, hok, rfl, ho, by simpa using hl, Nat.zero_le _⟩
theorem ZmC {st : Za} {t : Ze} {dp lv n : Nat} (h1 : 1 ≤ lv) (h2 : lv ≤ dp) (hd : dp ≤ 2) (hn : n ≤ 4 ^ (dp + 1 - lv)) : (n + 3) / 4 ≤ (Ye st t dp lv).length := by
 have h4 : ∀ k, ((kidsS st t.af k).getD YL).length = 4 := fun k => by
  cases h : kidsS st t.af k with
  | none => rfl
  | some l => exact Qd h
 unfold Ye;rcases (by omega : (dp = 1 ∧ lv = 1) ∨ (dp = 2 ∧ lv = 1) ∨ (dp = 2 ∧ lv = 2)) with ⟨rfl, rfl⟩ | ⟨rfl, rfl⟩ | ⟨rfl, rfl⟩
 ·split
  ·rw [if_pos rfl]; have hn : n ≤ 4 := hn; show _ ≤ 1; omega
  ·have hn : n ≤ 4 := hn; show _ ≤ 4; omega
 ·split
  ·rw [if_neg (by omega), h4]; have hn : n ≤ 16 := hn; omega
  ·have hn : n ≤ 16 := hn; show _ ≤ 4; omega
 ·split
  ·rw [if_pos rfl]; have hn : n ≤ 4 := hn; show _ ≤ 1; omega
  ·have hn : n ≤ 4 := hn; show _ ≤ 4; omega
theorem Zgz {st : Za} {t : Ze} {dp lv : Nat} (hr : t.af.ok = true) : ∀ p ∈ Ye st t dp lv, p.ok = true := by
 have h4 : ∀ p ∈ YL, p.ok = true := fun p hp => by
  simp only [YL, mem_cons, List.not_mem_nil, or_false, or_self] at hp;rw [hp]; rfl
 intro p hp;unfold Ye at hp
 split at hp
 ·split at hp
  ·rw [mem_singleton.1 hp]; exact hr
  ·cases h : kidsS st t.af (dp : Int) with
   | none => rw [h] at hp; exact h4 p hp
   | some l => rw [h] at hp; exact (QT (UL h).1).2.1 p hp
 ·exact h4 p hp
theorem Zbk {xs : List PtrD} {i : Nat} : (xs.drop i).headD PtrD.zero = xs.getD i PtrD.zero := by
 rw [List.headD_eq_head?_getD, List.head?_drop, getD_eq_getElem?_getD]
theorem Zdl.start {q : SQ} {P W0 sy : List PtrD} {lv m : Nat} (hok : q.d.ok = true) : Zdl q q P W0 lv m 0 (Xb (lv : Int) m P W0 q.d [] sy) [] sy sy.length :=
 ⟨Nat.zero_le _, rfl, Ua.refl _, hok, by simp, fun p hp => (nomatch hp), rfl, by omega⟩
theorem Zdl.step {q1 q z : SQ} {P W0 nx sy : List PtrD} {lv m i b : Nat} {RL : Zdk} (h : Zdl q1 q P W0 lv m i RL nx sy b) (hi : i < m) {r : ZeR} (hr : r = Yh q.d ((P.drop (i * 4)).take 4) (lv : Int) (W0.getD i PtrD.zero)) (hz : z = { q with d := r.st }) (hok : r.ok = true)
  (hcl : ((P.drop (i * 4)).take 4).length = 4) (hco : ∀ p ∈ (P.drop (i * 4)).take 4, p.ok = true) (hlv : inB (lv : Int) 0 2 = true) (hw : (W0.getD i PtrD.zero).ok = true) : Zdl q1 z P W0 lv m (i + 1) RL (nx ++ [r.p]) (QX sy r.p (W0.getD i PtrD.zero)) b := by
 have hg := Zgx hcl hco hlv hw h.ok;rw [← hr] at hg;subst hz;refine ⟨hi, ?_, h.gr.trans hg.1, hg.1.ok h.ok, ?_, fun p hp => ?_, ?_, ?_⟩
 ·show SQ.mk .. = SQ.mk ..
  have := h.hd;rw [this]
 ·have ht := h.tot
  have e : m - i = (m - (i + 1)) + 1 := by omega
  rw [e, ZhI (s := r.st) (p := r.p) (by rw [Zbk, ← hr, ← hok]), List.drop_drop, List.drop_drop, Zbk] at ht;rw [show (i + 1) * 4 = i * 4 + 4 by omega]; exact ht
 ·rcases mem_append.1 hp with hp | hp
  ·exact h.oks p hp
  ·rw [mem_singleton.1 hp]; exact hg.2
 ·rw [length_append, h.len]; rfl
 ·have := h.syl
  unfold QX
  split
  ·rw [length_append, length_singleton]; omega
  ·omega
theorem Zdl.fail {q1 q : SQ} {P W0 nx sy : List PtrD} {lv m i b : Nat} {RL : Zdk} (h : Zdl q1 q P W0 lv m i RL nx sy b) (hi : i < m) {r : ZeR} (hr : r = Yh q.d ((P.drop (i * 4)).take 4) (lv : Int) (W0.getD i PtrD.zero)) (hok : r.ok = false) : r.st = q.d ∧ RL = ⟨q.d, nx, sy, false⟩ := by
 have hs : r.st = q.d := by
  rw [hr] at hok ⊢;unfold Yh at hok ⊢
  split at hok
  ·cases hok
  ·split at hok
   ·cases hok
   ·split at hok
    ·cases hok
    ·rw [if_neg (by assumption), if_neg (by assumption), if_neg (by assumption)]
 refine ⟨hs, ?_⟩;have ht := h.tot;have e : m - i = (m - (i + 1)) + 1 := by omega
 rw [e, ZjF (s := r.st) (p := r.p) (by rw [Zbk, ← hr, ← hok]), hs] at ht;exact ht.symm
theorem Zdl.done {q1 q : SQ} {P W0 nx sy : List PtrD} {lv m i b : Nat} {RL : Zdk} (h : Zdl q1 q P W0 lv m i RL nx sy b) (hi : ¬ i < m) : RL = ⟨q.d, nx, sy, true⟩ := by
 have ht := h.tot;rw [show m - i = 0 by omega] at ht;exact ht.symm
theorem Zeo.next {q0 q z : SQ} {t : Ze} {dp : Nat} {R : Zdk} {lv : Nat} {ls sy P nx sy2 : List PtrD} (h : Zeo q0 q t dp R lv ls sy) (hd2 : dp ≤ 2) (hl : lv ≤ dp) (hP : P = XK ls) {m i : Nat} (hm : m = P.length / 4) (hb : Zdl q z P (Ye q.d t dp lv) lv m i (Xb (lv : Int) m P (Ye q.d t dp lv) q.d [] sy) nx sy2 sy.length) (hi : ¬ i < m) : Zeo q0 z t dp R (lv + 1) nx sy2 := by
 subst hP hm;have hd := hb.done hi;have ht := h.tot;have e : dp + 1 - lv = (dp + 1 - (lv + 1)) + 1 := by omega
 rw [e, Zmw hd] at ht;have hl2 := h.len;have hpl := V9 ls;have hnl := hb.len;have him := hb.im;refine ⟨by omega, by omega, ?_, h.gr.trans hb.gr, hb.ok, ht, hb.oks, ?_, ?_⟩
 ·have h1 := hb.hd; have h2 := h.hd
  show z = SQ.mk ..;rw [h1]; show SQ.mk .. = SQ.mk ..;rw [h2]
 ·rw [e, Nat.pow_succ] at hl2
  omega
 ·have := hb.syl; have := h.syl; have := h.lv1
  have : i ≤ 4 := by
   have h16 := ZjI (dp := dp) hd2 h.lv1;rw [e, Nat.pow_succ] at h16;rw [e, Nat.pow_succ] at hl2
   omega
  omega
theorem Zeo.stop {q0 q z : SQ} {t : Ze} {dp : Nat} {R : Zdk} {lv : Nat} {ls sy P nx sy2 : List PtrD} (h : Zeo q0 q t dp R lv ls sy) (hl : lv ≤ dp) (hP : P = XK ls) {m : Nat} (hm : m = P.length / 4) (hb : Xb (lv : Int) m P (Ye q.d t dp lv) q.d [] sy = ⟨z.d, nx, sy2, false⟩) : R = ⟨z.d, nx, sy2, false⟩ := by
 subst hP hm;have ht := h.tot;have e : dp + 1 - lv = (dp + 1 - (lv + 1)) + 1 := by omega
 rw [e, ZnK hb] at ht;exact ht.symm
theorem Zeo.done {q0 q : SQ} {t : Ze} {dp : Nat} {R : Zdk} {lv : Nat} {ls sy : List PtrD} (h : Zeo q0 q t dp R lv ls sy) (hl : ¬ lv ≤ dp) : R = ⟨q.d, ls, sy, true⟩ := by
 have ht := h.tot;rw [show dp + 1 - lv = 0 by have := h.lvd; omega] at ht;exact ht.symm
theorem Zbl {st : Za} {t : Ze} (hr : t.af.ok = true) : (ZH st t).length ≤ 5 ∧ ∀ p ∈ ZH st t, p.ok = true := by
 unfold ZH
 split
 ·exact ⟨by simp, fun p hp => nomatch hp⟩
 ·split
  ·cases h : kidsS st t.af 2 with
   | none => exact ⟨by simp, fun p hp => by simp at hp; rw [hp]; exact hr⟩
   | some l =>
    have hl := Qd h;have h9 := List.length_filter_le (fun p : PtrD => !p.hole) l;refine ⟨by show (l.filter _).length + 1 ≤ 5; omega, fun p hp => ?_⟩;rcases mem_cons.1 hp with rfl | hp
    ·exact hr
    ·exact (QT (UL h).1).2.1 p (List.mem_filter.1 hp).1
  ·exact ⟨by simp, fun p hp => by simp at hp; rw [hp]; exact hr⟩
theorem Zep {sy : List PtrD} {x : PtrD} {k : Nat} (hk : k < sy.length) : Jk (sy.take (k + 1)) x = (Jk (sy.take k) x || (sy.getD k PtrD.zero).eqv x) := by
 unfold Jk;exact U3 hk _
theorem Zeq {sy inn : List PtrD} {i : Nat} {s : Za} (hi : i < inn.length) : Vz sy (inn.drop i) s = Vz sy (inn.drop (i + 1)) (if Jk sy (inn.getD i PtrD.zero) = true then s else s.free (inn.getD i PtrD.zero)) := by
 rw [UN hi]; rfl
theorem Zcb (w0 w : World) (q0 : SQ) (t : Ze) (aoL : Option Addr) (cpL : Nat) (lvs : List PtrD) (many dp : Nat) (F : List Asr) (hdp : depthN (many : Int) = dp) (hl16 : lvs.length = 16) (hlo : ∀ p ∈ lvs, p.ok = true) (hmany : many ≤ 16) (hq : q0.d.ok = true) (hroot : t.af.ok = true) (hkid : t.aw = 2 → t.af.hole = false → kidsS q0.d t.af 2 ≠ none) (hS : St w0 (q0.asr :: Zg PtrD.cells 5 24 (.slice aoL lvs.length cpL) lvs :: F) w) : Calls prog 150 #[q0.u, tV t, .slice aoL lvs.length cpL, .int .i64 (many : Int)] w fun e w' => ∃ (q' : SQ) (r : UZ), r = XO q0.d t lvs many ∧ q'.d = r.st ∧ (r.ok = false → q' = { q0 with d := r.st } ∧ Ua q0.d r.st) ∧ (r.ok = true → Vo 5 q'.d) ∧ e = .returned (.tuple #[q'.u, tV r.t, .bool r.ok]) ∧ St w0 (q'.asr :: Zg PtrD.cells 5 24 (.slice aoL lvs.length cpL) lvs :: F) w' := by
 have hrow0 := Xm hq;have htk : (lvs.take many).length = many := by rw [length_take]; omega
 have hdp2 : dp ≤ 2 := hdp ▸ YV _;have hdf := Za2 (many := (many : Int)) (by omega); rw [hdp] at hdf;have E := Bx.mk hS; clear hS;refine ent func150 ntmps150 ?_;refine xsr ?_;refine ybx E ?_;clear E;intro w1 b1 E;refine ybx E ?_;clear E;intro w2 b2 E;refine yal z8 E ?_;clear E;intro w3 b3 E;refine yal z7 E ?_;clear E;intro w4 b4 E;refine xr 1 rfl<|xne<|xsr<|xr 1 rfl ?_;refine ycB (hdp ▸ V1 (many : Int) _) func23 E ?_;clear E;intro w5 E;refine xr 1 rfl<|xne<|xsr<|Xw 3 8 E rfl rfl<|Xw 2 7 E rfl rfl ?_;refine yc (ZhK q0.a0 q0.c0 q0.a1 q0.c1 q0.a2 q0.c2 q0.a4 q0.c4 q0.a6 q0.c6 q0.d t hkid _ (E.o.sqRd 4 rfl) hrow0) func181 ?_;rintro _ w6 ⟨ao5, cp5, rfl, hs⟩;refine ⟨_, rfl, ?_⟩;replace E := E.ad hs;clear hs;refine xr 1 rfl<|xne<|xsr ?_;refine yem 24 5 E ?_;clear E;intro w7 b6 E;refine xr 2 rfl<|xy rfl (fun a J=>JP (e := 24) (size := 5) (k := many) rfl (J.ev rfl) (J.ev rfl) (by kernel_rfl) (by omega) (Nat.le_trans (by omega) (St.capLe E.o 6 rfl))) ?_;replace E := Bx.mk (E.o.nilRow PtrD.cells 5 24 (some ⟨b6, 0, none⟩));intro a J;refine XE rfl J rfl rfl rfl (J.ev rfl) (J.ev rfl) Xu PtrD.cells_len E.o 0 (xs := []) rfl (ys := lvs.take many) (Rd.take (St.rdOf E.o PtrD.cells_len 7 rfl) (k := many) (by omega)) (Zz _) (by unfold maxLen; (try simp only [length_append, length_cons, length_nil, nil_append, length_map]); omega) (by (try simp only [length_append, length_cons, length_nil, nil_append, length_map]); omega) ?_; clear J E a; intro ao8 cp9 w8 a J E; replace E := Bx.mk E;revert a;refine xr 1 rfl<|xne<|xsr ?_;refine yem 24 5 E ?_;clear E;intro w9 b10 E;refine xr 1 rfl<|xne<|xsq<|xsr<|xr 1 rfl<|xne<|xbl ?_;have hz11 : ([] : List PtrD).length + (lvs.take many).length = (([]) ++ (lvs.take many)).length := by simp only [length_append, length_nil, length_cons]
 intro a J;rw [hz11] at E J;replace E := Bx.mk (E.o.nilRow PtrD.cells 5 24 (some ⟨b10, 0, none⟩));replace E:=E.pks [6,1,2,7];refine Zt (ι := Nat) (fun lv a w => ∃ (q1 : SQ) (ao : Option Addr) (cp : Nat) (ls : List PtrD) (aS : Option Addr) (cs : Nat) (sy : List PtrD), (Zeo q0 q1 t dp (XR t dp dp 1 q0.d (lvs.take many) []) lv ls sy) ∧ Fr 145 a [(2, .slice aoL lvs.length cpL), (3, .int .i64 (many : Int)), (4, .pointer (some ⟨b1, 0, none⟩)), (5, .pointer (some ⟨b2, 0, none⟩)), (8, .pointer (some ⟨b3, 0, none⟩)), (9, .pointer (some ⟨b4, 0, none⟩)), (10, .bool false), (11, .int .i64 (dp : Int)), (12, .slice ao5 ((ZH q0.d t).length) cp5), (13, .slice ao ls.length cp), (14, .slice aS sy.length cs), (15, .int .i64 (lv : Int))] ∧ St w0 (SQ.asr q1 :: Zg PtrD.cells 5 24 (.slice ao ls.length cp) ls :: Zg PtrD.cells 5 24 (.slice aS sy.length cs) sy :: boxA b1 8 44 (q1.u) :: Zg PtrD.cells 5 24 (.slice ao5 ((ZH q0.d t).length) cp5) (ZH q0.d t) :: boxA b4 7 26 (az7) :: boxA b3 8 44 (az8) :: boxA b2 7 26 (tV t) :: Zg PtrD.cells 5 24 (.slice aoL lvs.length cpL) lvs :: F) w) (fun lv => dp + 1 - lv) 1 ⟨q0, _, _, _, _, _, [], Zeo.start hq (fun p hp => hlo p (List.mem_of_mem_take hp)) (by rw [length_take]; omega), J.less _ ⟨rfl, rfl, rfl, rfl, rfl, rfl, rfl, rfl, rfl, rfl, rfl, rfl, trivial⟩, E.o⟩ ?_;clear J E; clear a;rintro lv a w10 ⟨q1, ao, cp, ls, aS, cs, sy, hA, J, E⟩;replace E := Bx.mk E;have h416 : 4 ^ (dp + 1 - lv) ≤ 16 := ZjI hdp2 hA.lv1; have hlsl := hA.len; have hsyl := hA.syl; have hlv1 := hA.lv1; have hlvd := hA.lvd;revert a;refine xsq<|xsr<|xr 3 rfl<|xne<|xcd 39 rfl (fun _ dcc1=>?_) fun _ dcc1=>?_
 refine xct rfl<|xsk<|xet<|xsq<|xbl<|xsr<|Xw 3 8 E rfl rfl<|Xw 7 7 E rfl rfl<|xr 2 rfl ?_;refine yc (ZkE q1.a0 q1.c0 q1.a1 q1.c1 q1.a2 q1.c2 q1.a4 q1.c4 q1.a6 q1.c6 q1.d t dp lv _ (E.o.sqRd 0 rfl) (Xm hA.ok)) func182 ?_;rintro _ w11 ⟨ao12, cp12, rfl, hs⟩;refine ⟨_, rfl, ?_⟩;replace E := E.ad hs;clear hs;refine xr 1 rfl<|xne<|xsr ?_;refine yem 24 5 E ?_;clear E;intro w12 b13 E;refine xr 1 rfl<|xne<|xsq<|xbl ?_;replace E:=E.pks [2];intro a J;refine Zt (ι := Nat) (fun j a w => ∃ (ap : Option Addr) (cpP : Nat) (P : List PtrD), (P = ls ++ replicate j PtrD.zero ∧ j ≤ (4 - ls.length % 4) % 4) ∧ Fr 145 a [(2, .slice aoL lvs.length cpL), (3, .int .i64 (many : Int)), (4, .pointer (some ⟨b1, 0, none⟩)), (5, .pointer (some ⟨b2, 0, none⟩)), (8, .pointer (some ⟨b3, 0, none⟩)), (9, .pointer (some ⟨b4, 0, none⟩)), (10, .bool false), (11, .int .i64 (dp : Int)), (12, .slice ao5 ((ZH q0.d t).length) cp5), (14, .slice aS sy.length cs), (15, .int .i64 (lv : Int)), (16, .slice ao12 ((Ye q1.d t dp lv).length) cp12), (17, .slice (some ⟨b13, 0, none⟩) 0 0), (13, .slice ap P.length cpP)] ∧ St w0 (Zg PtrD.cells 5 24 (.slice ap P.length cpP) P :: Zg PtrD.cells 5 24 (.slice ao12 ((Ye q1.d t dp lv).length) cp12) (Ye q1.d t dp lv) :: SQ.asr q1 :: Zg PtrD.cells 5 24 (.slice aS sy.length cs) sy :: boxA b1 8 44 (q1.u) :: Zg PtrD.cells 5 24 (.slice ao5 ((ZH q0.d t).length) cp5) (ZH q0.d t) :: boxA b4 7 26 (az7) :: boxA b3 8 44 (az8) :: boxA b2 7 26 (tV t) :: Zg PtrD.cells 5 24 (.slice aoL lvs.length cpL) lvs :: F) w) (fun j => (4 - ls.length % 4) % 4 - j) 0 ⟨_, _, _, ⟨(by simp), Nat.zero_le _⟩, J.less _ ⟨rfl, rfl, rfl, rfl, rfl, rfl, rfl, rfl, rfl, rfl, rfl, rfl, rfl, rfl, trivial⟩, E.o⟩ ?_;clear J E; clear a;rintro j a w13 ⟨ap, cpP, P, ⟨hPj, hj⟩, J, E⟩;replace E := Bx.mk E;have hPl : P.length = ls.length + j := by rw [hPj, length_append, List.length_replicate]
 revert a;refine xsq<|xsr<|xr 1 rfl<|xy rfl (vn 24 5 rfl)<|xy rfl (fun a J=>QK rfl (J.ev rfl) (J.ev rfl) (by omega) (QN (by omega) (by omega)))<|xr 1 rfl<|xne<|xcn 51 rfl (fun _ dcc2=>?_) fun _ dcc2=>?_
 refine xct rfl<|xsk<|xet<|xbl<|xrl<|xr 1 rfl<|xy rfl (vb z5 rfl) ?_;refine ybs PtrD.cells 24 5 [PtrD.zero] E ?_;clear E;intro b14 w14 E;refine yap Xu PtrD.cells_len E 1 (St.rdN E.o PtrD.cells_len 0 rfl) (Zz _) ?_;clear E;intro ao15 cp16 w15 E;refine xr 1 rfl<|xni<|xeb<|xet ?_;have hz17 : P.length + ([PtrD.zero]).length = (P ++ ([PtrD.zero])).length := by simp only [length_append, length_nil, length_cons]
 intro a J;rw [hz17] at E J;replace E:=E.pks [10,10,10,10,10,10,10,10,10,10];exact ⟨j + 1, ⟨_, _, _, ⟨by rw [hPj, List.append_assoc, ZmB], by omega⟩, J.less _ ⟨rfl, rfl, rfl, rfl, rfl, rfl, rfl, rfl, rfl, rfl, rfl, rfl, rfl, rfl, trivial⟩, (E.o.erase 10)⟩, (by omega)⟩;refine xcf rfl<|xex<|xtx<|xtx<|xbh<|xet<|xsq<|xsr<|xr 1 rfl<|xne<|xbl ?_;replace E := Bx.mk (E.o.nilRow PtrD.cells 5 24 (some ⟨b13, 0, none⟩));replace E:=E.pks [5,5,2,5];have hP : P = XK ls := by rw [hPj]; unfold XK; congr 2; omega
 have hP4 := V9 ls; rw [← hP] at hP4;have hwl := ZmC (st := q1.d) (t := t) hA.lv1 (by omega) hdp2 hA.len;intro a J;refine Zt (ι := Nat) (fun i a w => ∃ (q2 : SQ) (an : Option Addr) (cn : Nat) (nx : List PtrD) (a5 : Option Addr) (c5 : Nat) (sy2 : List PtrD), (Zdl q1 q2 P (Ye q1.d t dp lv) lv (P.length / 4) i (Xb (lv : Int) (P.length / 4) P (Ye q1.d t dp lv) q1.d [] sy) nx sy2 sy.length) ∧ Fr 145 a [(2, .slice aoL lvs.length cpL), (3, .int .i64 (many : Int)), (4, .pointer (some ⟨b1, 0, none⟩)), (5, .pointer (some ⟨b2, 0, none⟩)), (8, .pointer (some ⟨b3, 0, none⟩)), (9, .pointer (some ⟨b4, 0, none⟩)), (10, .bool false), (11, .int .i64 (dp : Int)), (12, .slice ao5 ((ZH q0.d t).length) cp5), (13, .slice ap P.length cpP), (15, .int .i64 (lv : Int)), (16, .slice ao12 ((Ye q1.d t dp lv).length) cp12), (14, .slice a5 sy2.length c5), (17, .slice an nx.length cn), (18, .int .i64 (i : Int))] ∧ St w0 (SQ.asr q2 :: Zg PtrD.cells 5 24 (.slice an nx.length cn) nx :: Zg PtrD.cells 5 24 (.slice a5 sy2.length c5) sy2 :: boxA b1 8 44 (q2.u) :: Zg PtrD.cells 5 24 (.slice ap P.length cpP) P :: Zg PtrD.cells 5 24 (.slice ao12 ((Ye q1.d t dp lv).length) cp12) (Ye q1.d t dp lv) :: Zg PtrD.cells 5 24 (.slice ao5 ((ZH q0.d t).length) cp5) (ZH q0.d t) :: boxA b4 7 26 (az7) :: boxA b3 8 44 (az8) :: boxA b2 7 26 (tV t) :: Zg PtrD.cells 5 24 (.slice aoL lvs.length cpL) lvs :: F) w) (fun i => P.length / 4 - i) 0 ⟨q1, _, _, [], _, _, _, Zdl.start hA.ok, J.ls _, E.o⟩ ?_;clear J E; clear a;rintro i a w16 ⟨q2, an, cn, nx, a5, c5, sy2, hB, J, E⟩;replace E := Bx.mk E;have hnxl := hB.len; have hsy2 := hB.syl; have him := hB.im;revert a;refine xsq<|xsr<|xr 1 rfl<|xy rfl (fun a J=>Y8 rfl (J.ev rfl) (J.ev rfl) (Yi (by omega)))<|xr 1 rfl<|xy rfl (vn 24 5 rfl)<|xr 1 rfl<|xne<|xcd 60 rfl (fun _ dcc3=>?_) fun _ dcc3=>?_
 have hcl : ((P.drop (i * 4)).take 4).length = 4 := by rw [length_take, length_drop]; omega
 have hco : ∀ p ∈ (P.drop (i * 4)).take 4, p.ok = true := fun p hp => ZnJ hA.oks p (hP ▸ List.mem_of_mem_drop (List.mem_of_mem_take hp))
 have hlv2 : inB (lv : Int) 0 2 = true := XU (by omega) (by omega);obtain ⟨g18, rfl, _, _, _, _⟩ := E.o.rowOpen 4 rfl (by omega);obtain ⟨g19, rfl, _, _, _, _⟩ := E.o.rowOpen 5 rfl (by omega);have hcap := E.o.capLe 4 rfl;replace E:=E.pks [10,10,10,10,10,10,9,9,9,10,10];refine xct rfl<|xsk<|xet<|xsq<|xbl<|xsq ?_;intro a J;refine ZX (R := fun a w => ∃ (b20 : Nat) (b21 : Nat) (zr1 : ZeR) (zq1 : SQ), zr1 = Yh q2.d ((P.drop (i * 4)).take 4) (lv : Int) ((Ye q1.d t dp lv).getD i PtrD.zero) ∧ zq1 = { q2 with d := zr1.st } ∧ Fr 145 a [(2, .slice aoL lvs.length cpL), (3, .int .i64 (many : Int)), (4, .pointer (some ⟨b1, 0, none⟩)), (5, .pointer (some ⟨b2, 0, none⟩)), (8, .pointer (some ⟨b3, 0, none⟩)), (9, .pointer (some ⟨b4, 0, none⟩)), (10, .bool false), (11, .int .i64 (dp : Int)), (12, .slice ao5 ((ZH q0.d t).length) cp5), (13, .slice (some ⟨g18, 0, none⟩) P.length cpP), (15, .int .i64 (lv : Int)), (16, .slice (some ⟨g19, 0, none⟩) ((Ye q1.d t dp lv).length) cp12), (14, .slice a5 sy2.length c5), (17, .slice an nx.length cn), (18, .int .i64 (i : Int)), (56, .int .i64 (i : Int)), (57, .int .i64 ((i : Int) * 4)), (58, .slice (some ⟨g18, 0, none⟩) P.length cpP), (59, .int .i64 (P.length : Int)), (60, .bool true), (19, .pointer (some ⟨b20, 0, none⟩)), (20, .pointer (some ⟨b21, 0, none⟩)), (21, .bool zr1.ok)] ∧ St w0 (boxA b21 5 24 (pV zr1.p) :: boxA b20 8 44 (zq1.u) :: SQ.asr zq1 :: Zg PtrD.cells 5 24 (.slice (some ⟨g18, 0, none⟩) P.length cpP) P :: Zg PtrD.cells 5 24 (.slice an nx.length cn) nx :: Zg PtrD.cells 5 24 (.slice a5 sy2.length c5) sy2 :: boxA b1 8 44 (q2.u) :: Zg PtrD.cells 5 24 (.slice (some ⟨g19, 0, none⟩) ((Ye q1.d t dp lv).length) cp12) (Ye q1.d t dp lv) :: Zg PtrD.cells 5 24 (.slice ao5 ((ZH q0.d t).length) cp5) (ZH q0.d t) :: boxA b4 7 26 (az7) :: boxA b3 8 44 (az8) :: boxA b2 7 26 (tV t) :: Zg PtrD.cells 5 24 (.slice aoL lvs.length cpL) lvs :: F) w) ?_ ?_;revert a;refine hld [0] E ?_;clear E;intro w17 E M;refine Hw 0 3 8 E rfl rfl<|Hp 1 E rfl<|Hp 2 E rfl<|xhy 3 E.o rfl rfl (fun E a J=>Y8 rfl (J.ev rfl) (J.ev rfl) (Yi (by omega)))<|Hp 4 E rfl<|xhy 5 E.o rfl rfl (fun E=>vad rfl)<|xhy 6 E.o rfl rfl (fun E a J=>Y8 rfl (J.ev rfl) (J.ev rfl) (Yi (by omega)))<|xhy 7 E.o rfl rfl (fun E a J=>ZhM (e := 24) (size := 5) (k := i * 4) (j := 4) rfl (J.ev rfl) (J.ev rfl) (J.ev rfl) (by kernel_rfl) (by omega) (by omega) (by omega) (by omega))<|Hp 8 E rfl<|Hp 9 E rfl<|Hp 10 E rfl<|xhy 11 E.o rfl rfl (fun E=>vx 24 i 5 rfl)<|xhy 12 E.o rfl rfl (fun E a J=>ylr (cs := pL ((Ye q1.d t dp lv).getD i PtrD.zero)) rfl (J.ev rfl) (E.elem PtrD.cells_len 4 rfl (Zi (xs := (Ye q1.d t dp lv)) (j := i) (d := PtrD.zero) (by omega)))) ?_
 repeat' (first | (refine yo (i := 13) (Zmz w0 _ q2 g18 cpP (i * 4) (cpP - i * 4) P _ (lv : Int) ((Ye q1.d t dp lv).getD i PtrD.zero) _ (by omega) rfl hcl hco (Zgz hroot _ (YN (by omega))) hlv2 hB.ok ((M.lk (Zg PtrD.cells 5 24 (.slice (some ⟨g18, 0, none⟩) P.length cpP) P)).lk (SQ.asr q2)).out) func183 ?_;rintro _ w19 ⟨zq1, zr1, hr1, hq1, rfl, hs1⟩;refine ⟨_, rfl, ?_⟩; replace M := Bx.mk hs1;clear hs1;replace M:=M.nm;replace E:=E.upd M;refine onb E.o ?_) | (refine yoa (i := 18) z8 E M ?_;clear E M;intro w20 b20 E M) | (refine yoa (i := 19) z5 E M ?_;clear E M;intro w21 b21 E M) | (refine YS (i := 20) M ?_;clear E M;intro w22 E M) | (refine YS (i := 21) M ?_;clear E M;intro w23 E M) | refine rdy 14<|Hp 14 E rfl ?_ | refine rdy 15<|Hp 15 E rfl ?_ | refine rdy 16<|Hp 16 E rfl ?_ | refine rdy 17<|Hp 17 E rfl ?_ | refine rdy 22<|Hp 22 E rfl ?_ | refine VK 13 18 19 ?_ ?_ ?_ | refine YX 13 18 ?_ ?_ | refine Z2 13 ?_ | refine Z2 20 ?_ | refine Z2 21 ?_ | refine Z2 18 ?_ | refine YX 13 19 ?_ ?_ | refine Z2 19 ?_ | refine YX 18 19 ?_ ?_ | (refine gdn ?_;intro a J;exact ZD ⟨b20, b21, zr1, zq1, hr1, hq1, J.ls _, M.o.pmA⟩))
 clear J E a; rintro a w17 ⟨b20, b21, zr1, zq1, hr1, hq1, J, E⟩; replace E := Bx.mk E;revert a;refine xet<|xsq<|xsr<|xr 2 rfl<|xne<|xcs 82 rfl (fun cc4=>?_) fun cc4=>?_
 refine xct rfl<|xsr<|Xw 6 8 E rfl rfl<|xy rfl (vb z7 rfl) ?_;refine yst E 10 ?_;clear E;intro w18 E;replace E:=E.nm;refine yst E 9 ?_;clear E;intro w19 E;replace E:=E.nm;refine xr 1 rfl<|xne<|xre<|xtr<|xbr<|xtr<|xtr<|xbr<|xtr<|xbr<|xtr<|xtr<|xbr<|xtr ?_;intro a J;refine Zx J results150 (J.resBox rfl (E.o.box 10 rfl) (by kernel_rfl)) (J.resBox rfl (E.o.box 9 rfl) (by kernel_rfl)) (J.res rfl) ?_;obtain ⟨hf1, hf2⟩ := hB.fail (by omega) hr1 (by simpa using cc4);have hR := hA.stop (by omega) hP rfl hf2;have hz : zq1 = q2 := by rw [hq1, hf1]
 subst hz;have hT : XO q0.d t lvs many = ⟨zq1.d, tree0, false⟩ := ZjG (by rw [hdp]; exact hR);replace E:=E.pks [12,3];refine ⟨zq1, _, hT.symm, rfl, fun _ => ⟨?_, hA.gr.trans hB.gr⟩, fun h => (nomatch h), rfl, (E.o.erS [12,11,10,9,8,7,6,5,4,3,2])⟩;have h1 := hB.hd; have h2 := hA.hd; rw [h1]; show SQ.mk .. = SQ.mk ..; rw [h2];refine xcf rfl<|xsk<|xet<|xsr<|Xw 1 8 E rfl rfl ?_;refine yst E 6 ?_;clear E;intro w20 E;replace E:=E.nm;refine xne<|xsq<|xsq ?_;intro a J;refine Yf (by kernel_rfl) (by kernel_rfl) E.o ?_;revert a;refine Qw 0 5 rfl rfl<|xqr 2 rfl<|xq rfl (fun E=>vx 24 i 5 rfl)<|xq rfl (fun E a J=>ylr (cs := pL ((Ye q1.d t dp lv).getD i PtrD.zero)) rfl (J.ev rfl) (E.elem PtrD.cells_len 7 rfl (Zi (xs := (Ye q1.d t dp lv)) (j := i) (d := PtrD.zero) (by omega))))<|xq rfl (fun E a J=>ZfK zr1.p ((Ye q1.d t dp lv).getD i PtrD.zero) rfl (J.ev rfl) (J.ev rfl)) ?_;intro a J;refine wpQuiet_nil ?_; intro w21 E; replace E := Bx.mk E;revert a;refine xet<|xcs 91 rfl (fun cc5=>?_) fun cc5=>?_
 refine xct rfl<|xrl<|xr 1 rfl<|Xw 0 5 E rfl rfl ?_;refine ybs PtrD.cells 24 5 [zr1.p] E ?_;clear E;intro b60 w22 E;refine yap Xu PtrD.cells_len E 6 (St.rdN E.o PtrD.cells_len 0 rfl) (Zz _) ?_;clear E;intro ao61 cp62 w23 E;refine xr 1 rfl<|xne<|xrl<|xr 1 rfl<|Xw 1 5 E rfl rfl ?_;refine ybs PtrD.cells 24 5 [zr1.p] E ?_;clear E;intro b63 w24 E;refine yap Xu PtrD.cells_len E 6 (St.rdN E.o PtrD.cells_len 0 rfl) (Zz _) ?_;clear E;intro ao64 cp65 w25 E;refine xr 1 rfl<|xni<|xeb<|xet<|xrl<|xr 1 rfl<|xy rfl (vad rfl)<|xr 1 rfl<|xne ?_;have hz66 : nx.length + ([zr1.p]).length = (nx ++ ([zr1.p])).length := by simp only [length_append, length_nil, length_cons]
 intro a J;rw [hz66] at E J;have hz67 : sy2.length + ([zr1.p]).length = (sy2 ++ ([zr1.p])).length := by simp only [length_append, length_nil, length_cons]
 rw [hz67] at E J;have hB2 := hB.step (by omega) hr1 hq1 (by simpa using cc4) hcl hco hlv2 (Zgz hroot _ (YN (by omega)));rw [show QX sy2 zr1.p ((Ye q1.d t dp lv).getD i PtrD.zero) = sy2 ++ [zr1.p] from if_pos (by rw [cc5])] at hB2;replace E:=E.pks [14,14,14,14,14,14,11,14,14,14,14];exact ⟨i + 1, ⟨_, _, _, _, _, _, _, hB2, J.ls _, (E.o.erS [14,13,12,11])⟩, (by omega)⟩;refine xcf rfl<|xsk<|xet<|xrl<|xr 1 rfl<|Xw 0 5 E rfl rfl ?_;refine ybs PtrD.cells 24 5 [zr1.p] E ?_;clear E;intro b68 w26 E;refine yap Xu PtrD.cells_len E 5 (St.rdN E.o PtrD.cells_len 0 rfl) (Zz _) ?_;clear E;intro ao69 cp70 w27 E;refine xr 1 rfl<|xni<|xeb<|xet<|xrl<|xr 1 rfl<|xy rfl (vad rfl)<|xr 1 rfl<|xne ?_;have hz71 : nx.length + ([zr1.p]).length = (nx ++ ([zr1.p])).length := by simp only [length_append, length_nil, length_cons]
 intro a J;rw [hz71] at E J;have hB2 := hB.step (by omega) hr1 hq1 (by simpa using cc4) hcl hco hlv2 (Zgz hroot _ (YN (by omega)));rw [show QX sy2 zr1.p ((Ye q1.d t dp lv).getD i PtrD.zero) = sy2 from if_neg (by rw [cc5]; exact Bool.false_ne_true)] at hB2;replace E:=E.pks [13,13,13,13,13,13,10,13,13,13,13];exact ⟨i + 1, ⟨_, _, _, _, _, _, _, hB2, J.ls _, (E.o.erS [13,12,11])⟩, (by omega)⟩;refine xcf rfl<|xex<|xtx<|xtx<|xbh<|xet<|xrl<|xr 2 rfl<|xni<|xeb<|xet<|xrl<|xr 1 rfl<|xy rfl (vad rfl)<|xr 1 rfl<|xne ?_;replace E:=E.pks [10,10,10,10,10,8,8,8,8];intro a J;exact ⟨lv + 1, ⟨_, _, _, _, _, _, _, hA.next hdp2 (by omega) hP rfl hB (by omega), J.less _ ⟨rfl, rfl, rfl, rfl, rfl, rfl, rfl, rfl, rfl, rfl, rfl, rfl, trivial⟩, (E.o.erS [10,9])⟩, (by omega)⟩;refine xcf rfl<|xex<|xtx<|xtx<|xbh<|xet<|xsq<|xsr<|xr 1 rfl<|xne<|xbl ?_;have hin5 := (Zbl (st := q0.d) hroot).1;replace E:=E.pks [3,1];intro a J;refine Zt (ι := Nat) (fun i a w => ∃ (q3 : SQ), (i ≤ (ZH q0.d t).length ∧ Vz sy ((ZH q0.d t).drop i) q3.d = Vz sy (ZH q0.d t) q1.d ∧ Vo i q3.d) ∧ Fr 145 a [(2, .slice aoL lvs.length cpL), (3, .int .i64 (many : Int)), (4, .pointer (some ⟨b1, 0, none⟩)), (5, .pointer (some ⟨b2, 0, none⟩)), (8, .pointer (some ⟨b3, 0, none⟩)), (9, .pointer (some ⟨b4, 0, none⟩)), (10, .bool false), (11, .int .i64 (dp : Int)), (12, .slice ao5 ((ZH q0.d t).length) cp5), (13, .slice ao ls.length cp), (14, .slice aS sy.length cs), (22, .int .i64 (i : Int))] ∧ St w0 (SQ.asr q3 :: boxA b1 8 44 (q3.u) :: Zg PtrD.cells 5 24 (.slice ao ls.length cp) ls :: Zg PtrD.cells 5 24 (.slice aS sy.length cs) sy :: Zg PtrD.cells 5 24 (.slice ao5 ((ZH q0.d t).length) cp5) (ZH q0.d t) :: boxA b4 7 26 (az7) :: boxA b3 8 44 (az8) :: boxA b2 7 26 (tV t) :: Zg PtrD.cells 5 24 (.slice aoL lvs.length cpL) lvs :: F) w) (fun i => (ZH q0.d t).length - i) 0 ⟨q1, ⟨Nat.zero_le _, by rw [drop_zero], Jz hA.ok⟩, J.less _ ⟨rfl, rfl, rfl, rfl, rfl, rfl, rfl, rfl, rfl, rfl, rfl, rfl, trivial⟩, E.o⟩ ?_;clear J E; clear a;rintro i a w28 ⟨q3, ⟨hi, hfr, hW⟩, J, E⟩;replace E := Bx.mk E;revert a;refine xsq<|xsr<|xr 2 rfl<|xy rfl (vn 24 5 rfl)<|xr 1 rfl<|xne<|xcd 104 rfl (fun _ dcc6=>?_) fun _ dcc6=>?_
 refine xct rfl<|xsk<|xet<|xsq<|xbl<|xsr<|xr 1 rfl<|xne<|xsq<|xsr<|xr 1 rfl<|xne<|xbl ?_;intro a J;refine Zt (ι := Nat) (fun k a w => (k ≤ sy.length) ∧ Fr 145 a [(2, .slice aoL lvs.length cpL), (3, .int .i64 (many : Int)), (4, .pointer (some ⟨b1, 0, none⟩)), (5, .pointer (some ⟨b2, 0, none⟩)), (8, .pointer (some ⟨b3, 0, none⟩)), (9, .pointer (some ⟨b4, 0, none⟩)), (10, .bool false), (11, .int .i64 (dp : Int)), (12, .slice ao5 ((ZH q0.d t).length) cp5), (13, .slice ao ls.length cp), (14, .slice aS sy.length cs), (22, .int .i64 (i : Int)), (23, .bool (Jk (sy.take k) ((ZH q0.d t).getD i PtrD.zero))), (24, .int .i64 (k : Int))] ∧ St w0 (SQ.asr q3 :: boxA b1 8 44 (q3.u) :: Zg PtrD.cells 5 24 (.slice ao ls.length cp) ls :: Zg PtrD.cells 5 24 (.slice aS sy.length cs) sy :: Zg PtrD.cells 5 24 (.slice ao5 ((ZH q0.d t).length) cp5) (ZH q0.d t) :: boxA b4 7 26 (az7) :: boxA b3 8 44 (az8) :: boxA b2 7 26 (tV t) :: Zg PtrD.cells 5 24 (.slice aoL lvs.length cpL) lvs :: F) w) (fun k => sy.length - k) 0 ⟨Nat.zero_le _, J.ls _, E.o⟩ ?_;clear J E; clear a;rintro k a w29 ⟨hk4, J, E⟩;replace E := Bx.mk E;revert a;refine xsq<|xsr<|xr 2 rfl<|xy rfl (vn 24 5 rfl)<|xr 1 rfl<|xne<|xcd 110 rfl (fun _ dcc7=>?_) fun _ dcc7=>?_
 refine xct rfl<|xsk<|xet<|xsq<|xbl ?_;obtain ⟨g72, rfl, _, _, _, _⟩ := E.o.rowOpen 3 rfl (by omega);obtain ⟨g73, rfl, _, _, _, _⟩ := E.o.rowOpen 4 rfl (by omega);intro a J;refine Yf (by kernel_rfl) (by kernel_rfl) E.o ?_;revert a;refine xqr 2 rfl<|xcs 114 rfl (fun cc8=>?_) fun cc8=>?_
 refine xqr 11 rfl ?_;intro a J;refine wpQuiet_nil ?_; intro w30 E; replace E := Bx.mk E;revert a;refine xeb<|xet<|xrl<|xr 1 rfl<|xy rfl (vad rfl)<|xr 1 rfl<|xne ?_;have hks := Zep (x := ((ZH q0.d t).getD i PtrD.zero)) (show k < sy.length by omega); rw [cc8] at hks; simp only [Bool.true_or] at hks;intro a J;exact ⟨k + 1, ⟨(by omega), J.less _ ⟨rfl, rfl, rfl, rfl, rfl, rfl, rfl, rfl, rfl, rfl, rfl, rfl, (congrArg (fun z => some (Value.bool z)) hks.symm), rfl, trivial⟩, E.o⟩, (by omega)⟩;refine xqr 2 rfl<|xq rfl (fun E=>vx 24 k 5 rfl)<|xq rfl (fun E a J=>ylr (cs := pL (sy.getD k PtrD.zero)) rfl (J.ev rfl) (E.elem PtrD.cells_len 3 rfl (Zi (xs := sy) (j := k) (d := PtrD.zero) (by omega))))<|xqr 2 rfl<|xq rfl (fun E=>vx 24 i 5 rfl)<|xq rfl (fun E a J=>ylr (cs := pL ((ZH q0.d t).getD i PtrD.zero)) rfl (J.ev rfl) (E.elem PtrD.cells_len 4 rfl (Zi (xs := (ZH q0.d t)) (j := i) (d := PtrD.zero) (by omega))))<|xq rfl (fun E a J=>ZfK (sy.getD k PtrD.zero) ((ZH q0.d t).getD i PtrD.zero) rfl (J.ev rfl) (J.ev rfl))<|xqr 2 rfl ?_;intro a J;refine wpQuiet_nil ?_; intro w31 E; replace E := Bx.mk E;revert a;refine xeb<|xet<|xrl<|xr 1 rfl<|xy rfl (vad rfl)<|xr 1 rfl<|xne ?_;have hks := Zep (x := ((ZH q0.d t).getD i PtrD.zero)) (show k < sy.length by omega); rw [cc8] at hks; simp only [Bool.false_or] at hks;intro a J;exact ⟨k + 1, ⟨(by omega), J.less _ ⟨rfl, rfl, rfl, rfl, rfl, rfl, rfl, rfl, rfl, rfl, rfl, rfl, (congrArg (fun z => some (Value.bool z)) hks.symm), rfl, trivial⟩, E.o⟩, (by omega)⟩;refine xcf rfl<|xex<|xtx<|xtx<|xbh<|xet<|xsq ?_;intro a J;have hkt : sy.take k = sy := List.take_of_length_le (by omega); rw [hkt] at J;revert a;refine xrl<|xr 2 rfl<|xne<|xcs 126 rfl (fun cc9=>?_) fun cc9=>?_
 refine xct rfl ?_;obtain ⟨g74, rfl, _, _, _, _⟩ := E.o.rowOpen 4 rfl (by omega);refine hld [1,0] E ?_;clear E;intro w32 E M;refine Hp 1 E rfl<|Hp 2 E rfl<|xhy 3 E.o rfl rfl (fun E=>vx 24 i 5 rfl)<|xhy 4 E.o rfl rfl (fun E a J=>ylr (cs := pL ((ZH q0.d t).getD i PtrD.zero)) rfl (J.ev rfl) (E.elem PtrD.cells_len 2 rfl (Zi (xs := (ZH q0.d t)) (j := i) (d := PtrD.zero) (by omega)))) ?_;refine Zk 0 ?_;refine yoy E (fun a J=>ylr (cs := q3.l) rfl (J.ev rfl) ((M.o.box 1 rfl).sub 0 8)) ?_;refine Zk 5 ?_;intro a J;replace M:=M.pks [0];revert a;refine yo (JI w0 _ q3 ((ZH q0.d t).getD i PtrD.zero) i _ ((Zbl hroot).2 _ (YN (by omega))) hW (by omega) M.o) func151 ?_;rintro _ w35 ⟨zq3, hq3, rfl, hs1⟩;refine ⟨_, rfl, ?_⟩; replace M := Bx.mk hs1;clear hs1;intro a J;replace M:=M.nm;clear E;have E:=M.ers [1,0];refine ⟨E.o, ?_⟩;revert a;refine Zk 6 ?_;refine yos 1 [1,0] M ?_;clear E M;intro w36 E M;refine hdn ?_;replace E := M; clear M;refine xeb<|xet<|xrl<|xr 1 rfl<|xy rfl (vad rfl)<|xr 1 rfl<|xne ?_;have hk9 : Jk sy ((ZH q0.d t).getD i PtrD.zero) = false := by simpa using cc9
 have hst := Zeq (sy := sy) (s := q3.d) (show i < (ZH q0.d t).length by omega); rw [hk9] at hst;rw [if_neg Bool.false_ne_true, ← hq3] at hst;intro a J;exact ⟨i + 1, ⟨_, ⟨by omega, hst.symm.trans hfr, hq3 ▸ hW.free ((Zbl hroot).2 _ (YN (by omega)))⟩, J.less _ ⟨rfl, rfl, rfl, rfl, rfl, rfl, rfl, rfl, rfl, rfl, rfl, rfl, trivial⟩, E.o⟩, (by omega)⟩;refine xcf rfl<|xsk<|xeb<|xet<|xrl<|xr 1 rfl<|xy rfl (vad rfl)<|xr 1 rfl<|xne ?_;have hk9 : Jk sy ((ZH q0.d t).getD i PtrD.zero) = true := by simpa using cc9
 have hst := Zeq (sy := sy) (s := q3.d) (show i < (ZH q0.d t).length by omega); rw [hk9] at hst;intro a J;exact ⟨i + 1, ⟨_, ⟨by omega, hst.symm.trans hfr, hW.more (by omega)⟩, J.less _ ⟨rfl, rfl, rfl, rfl, rfl, rfl, rfl, rfl, rfl, rfl, rfl, rfl, trivial⟩, E.o⟩, (by omega)⟩;refine xcf rfl<|xex<|xtx<|xtx<|xbh<|xet<|xsr<|xy rfl (vb z5 rfl) ?_;refine yal z5 E ?_;clear E;intro w37 b75 E;refine yst E 0 ?_;clear E;intro w38 E;replace E:=E.nm;refine xne<|xsq<|xsr<|xr 1 rfl<|xy rfl (vn 24 5 rfl)<|xr 1 rfl<|xne<|xcd 136 rfl (fun _ dcc10=>?_) fun _ dcc10=>?_;refine xct rfl ?_;obtain ⟨g76, rfl, _, _, _, _⟩ := E.o.rowOpen 3 rfl (by omega);refine xrl<|xr 1 rfl<|xy rfl (vx 24 0 5 rfl)<|xy rfl (fun a J=>ylr (cs := pL (ls.getD 0 PtrD.zero)) rfl (J.ev rfl) (E.o.elem PtrD.cells_len 3 rfl (Zi (xs := ls) (j := 0) (d := PtrD.zero) (by omega)))) ?_;refine yst E 0 ?_;clear E;intro w39 E;replace E:=E.nm;refine xne<|xsq ?_;refine hld [7,6] E ?_;clear E;intro w40 E M;refine Hw 0 2 8 E rfl rfl<|Hw 1 0 5 E rfl rfl<|Hp 2 E rfl<|Hp 3 E rfl<|xhy 4 E.o rfl rfl (fun E=>vb [.int .i64 ((ls.getD 0 PtrD.zero).aC), .int .i64 ((ls.getD 0 PtrD.zero).al), .int .i64 ((ls.getD 0 PtrD.zero).am), .int .i64 ((ls.getD 0 PtrD.zero).aB), .int .i64 ((ls.getD 0 PtrD.zero).aq), .int .i64 (dp : Int), .int .i64 (many : Int)] rfl) ?_;refine Zk 5 ?_;refine yos 7 [7,6] M ?_;clear E M;intro w41 E M;refine Zk 6 ?_;refine yos 6 [7,6] M ?_;clear E M;intro w42 E M;refine Hp 7 E rfl ?_;refine hdn ?_;replace E := M; clear M;refine xet<|xre ?_;intro a J;refine Zx J results150 (J.resBox rfl (E.o.box 7 rfl) (by kernel_rfl)) (J.resBox rfl (E.o.box 6 rfl) (by kernel_rfl)) (J.res rfl) ?_;have hT : XO q0.d t lvs many = ⟨q3.d, ⟨ls.headD PtrD.zero, (dp : Nat), many⟩, true⟩ := by rw [Zek (by rw [hdp]; exact hA.done (by omega)), hdp]; rw [← hfr, List.drop_of_length_le (by omega)]; rfl
 replace E:=E.pks [9,2];have hh9 : ls.headD PtrD.zero = ls.getD 0 PtrD.zero := by cases ls <;> rfl
 exact ⟨q3, _, hT.symm, rfl, fun h => (nomatch h), fun _ => hW.more (by omega), by dsimp only [SQ.u]; rw [hh9] <;> rfl, (E.o.erS [9,8,7,6,5,4,3,2])⟩;refine xcf rfl<|xsk<|xet<|xsq ?_;refine hld [7,6] E ?_;clear E;intro w43 E M;refine Hw 0 2 8 E rfl rfl<|Hw 1 0 5 E rfl rfl<|Hp 2 E rfl<|Hp 3 E rfl<|xhy 4 E.o rfl rfl (fun E=>vb [.int .i64 0, .int .i64 0, .int .i64 0, .int .i64 0, .int .i64 0, .int .i64 (dp : Int), .int .i64 (many : Int)] rfl) ?_;refine Zk 5 ?_;refine yos 7 [7,6] M ?_;clear E M;intro w44 E M;refine Zk 6 ?_;refine yos 6 [7,6] M ?_;clear E M;intro w45 E M;refine Hp 7 E rfl ?_;refine hdn ?_;replace E := M; clear M;refine xet<|xre ?_;intro a J;refine Zx J results150 (J.resBox rfl (E.o.box 7 rfl) (by kernel_rfl)) (J.resBox rfl (E.o.box 6 rfl) (by kernel_rfl)) (J.res rfl) ?_;have hT : XO q0.d t lvs many = ⟨q3.d, ⟨ls.headD PtrD.zero, (dp : Nat), many⟩, true⟩ := by rw [Zek (by rw [hdp]; exact hA.done (by omega)), hdp]; rw [← hfr, List.drop_of_length_le (by omega)]; rfl
 replace E:=E.pks [9,2];have hh9 : ls.headD PtrD.zero = PtrD.zero := by rw [List.eq_nil_of_length_eq_zero (l := ls) (by omega)]; rfl
 exact ⟨q3, _, hT.symm, rfl, fun h => (nomatch h), fun _ => hW.more (by omega), by dsimp only [SQ.u]; rw [hh9] <;> rfl, (E.o.erS [9,8,7,6,5,4,3,2])⟩
end Go.Proofs.YtfhdmfcfcgbgeaaGreatDoor
