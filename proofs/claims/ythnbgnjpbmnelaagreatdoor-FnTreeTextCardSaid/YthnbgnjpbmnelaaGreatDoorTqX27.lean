/- A part of the proof in YthnbgnjpbmnelaaGreatDoorTqX34. -/
import Derived.Shelf.Small.Strs
import Derived.Test.YthnbgnjpbmnelaaGreatDoorTqX26
namespace Go.Proofs.YthnbgnjpbmnelaaGreatDoor
set_option maxHeartbeats 4000000
open Go.Proofs.Tryz
open List (append_nil filter_append flatMap_cons flatMap_nil getD_eq_getElem?_getD length length_append length_cons length_map length_nil length_set length_singleton length_take map_cons mem_append mem_append_left mem_append_right mem_cons mem_cons_of_mem mem_cons_self mem_replicate mem_singleton nil_append replicate)
open Option (getD_some)
set_option linter.unusedVariables false
set_option linter.unusedSimpArgs false
set_option maxRecDepth 100000
open Go.RowKit
def Zfr (o : Option Nat) : Int := match o with | none => -1 | some k => (k : Int)
theorem Qe (k : Nat) : Zfr (some k) = (k : Int) := rfl
theorem Zgl {l : List ByteArray} {i : Nat} (h : i < l.length) : l.drop i = l.getD i ByteArray.empty :: l.drop (i + 1) := by
 rw [List.drop_eq_getElem_cons h, getD_eq_getElem?_getD, List.getElem?_eq_getElem h]; rfl
def Zr (s : ByteArray) : List ByteArray := bif (s.toList == (⟨#[47]⟩ : ByteArray).toList) then [] else Ze (s.extract 1 s.size) 47
theorem Zah {s : ByteArray} (h : (s.toList == (⟨#[47]⟩ : ByteArray).toList) = true) : Zr s = [] := by unfold Zr; rw [h]; rfl
theorem Uf {s : ByteArray} (h : (s.toList == (⟨#[47]⟩ : ByteArray).toList) = false) : Zr s = Ze (s.extract 1 s.size) 47 := by unfold Zr; rw [h]; rfl
theorem ZnB {t : ByteArray} (h : Zdv t = true) : (Ze t 47).length ≤ 4 := by
 unfold Zdv at h;rw [Bool.and_eq_true] at h;exact of_decide_eq_true h.1
theorem JS {s : ByteArray} (h : ZG s = true) : (Zr s).length ≤ 4 := by
 cases h1 : (s.toList == (⟨#[47]⟩ : ByteArray).toList) with
 | true => rw [Zah h1]; exact Nat.zero_le _
 | false =>
  cases h2 : (s.data.toList.head? == some 47) with
  | false => rw [JA h1 h2] at h; cases h
  | true =>
   rw [JB h1 h2] at h;rw [Uf h1]; exact ZnB h
theorem Zci (aoE : Option Addr) (cpE : Nat) (es : List Zb) (s : ByteArray) (w0 : World) (ho : YE es = true) (hE : Rd Zb.cells 2 w0 aoE es.length es) : Calls prog 305 #[.slice aoE es.length cpE, .string s] w0 fun e w' => e = .returned (.int .i64 (Zfr (Qp es s))) ∧ Below w0.heap.size w0 w' := by
 obtain ⟨gE, oE, rE⟩ := hE.opn; have RE := Bx.mk rE; clear rE;have h12 := (UC ho).2;have E := Bx.mk (St.start w0);refine ent func305 ntmps305 ?_;refine xsr<|xr 1 rfl<|xne<|xsq<|xsr<|xr 1 rfl<|xne<|xbl ?_;intro a J;refine Zs (ι := Nat) (fun i a w => (i ≤ es.length ∧ ∀ j, j < i → (es.getD j Zb.zero).aD ≠ s) ∧ Fr 20 a [(0, .slice aoE es.length cpE), (1, .string s), (4, .int .i64 0), (5, .int .i64 (i : Int))] ∧ St w0 ([]) w) (fun i => es.length - i) 0 ⟨⟨Nat.zero_le _, fun j hj => absurd hj (Nat.not_lt_zero _)⟩, J.ls _, E.o⟩ ?_;clear J E; clear a;rintro i a w1 ⟨⟨hi, hal⟩, J, E⟩;replace E := Bx.mk E;revert a;refine xsq<|xsr<|xr 2 rfl<|xy rfl (vn 312 2 rfl)<|xr 1 rfl<|xne<|xcd 9 rfl (fun _ dcc1=>?_) fun _ dcc1=>?_
 refine xct rfl<|xsk<|xet<|xsq<|xbl<|xsr<|xr 2 rfl<|xy rfl (vxr 312 i 2 rfl (RE.out.ao i (by omega)))<|Xf 0 rfl<|xy rfl (fun a J=>ylo (v := .string ((es.getD i Zb.zero).aD)) rfl (J.ev rfl) (RE.out.elem E.o (Zh (xs := es) (j := i) (d := Zb.zero) (by omega)) 0 _ rfl))<|xr 1 rfl<|xy rfl (fun a J=>Yq rfl (J.ev rfl) (J.ev rfl))<|xne<|xcs 18 rfl (fun cc2=>?_) fun cc2=>?_;refine xct rfl<|xsr<|xr 2 rfl<|xne<|xre<|xbr<|xtr<|xtr<|xbr<|xtr<|xb1 results305 rfl ?_;have hx : Qp es s = some i := Zd1 ho (o := some i) ⟨by omega, ZS cc2⟩; exact ⟨by rw [hx] <;> rfl, E.o.bel⟩;have hne9 : (es.getD i Zb.zero).aD ≠ s := fun e => by rw [e] at cc2; simp at cc2
 have hal2 : ∀ j, j < i + 1 → (es.getD j Zb.zero).aD ≠ s := fun j hj => (Nat.lt_or_ge j i).elim (fun h => hal j h) (fun h => by obtain rfl : j = i := (by omega); exact hne9)
 refine xcf rfl<|xsk<|xeb<|xet<|xrl<|xr 1 rfl<|xy rfl (vad rfl)<|xr 1 rfl<|xne ?_;intro a J;exact ⟨(i + 1), ⟨⟨by omega, hal2⟩, J.less _ ⟨rfl, rfl, rfl, rfl, trivial⟩, E.o⟩, (by omega)⟩;refine xcf rfl<|xex<|xtx<|xtx<|xbh<|xet<|xsr<|xr 1 rfl<|xne<|xre<|xb1 results305 rfl ?_;have hx : Qp es s = none := Zd1 ho (o := none) fun j hj => hal j (by omega); exact ⟨by rw [hx] <;> rfl, E.o.bel⟩
theorem Zgm (s : ByteArray) (w0 : World) (h : (s.toList == (⟨#[47]⟩ : ByteArray).toList) = true) : Calls prog 310 #[.string s] w0 fun e w' => ∃ ao cp, e = .returned (.slice ao (Zr s).length cp) ∧ Rd Zt 1 w' ao (Zr s).length (Zr s) ∧ Below w0.heap.size w0 w' := by
 have E := Bx.mk (St.start w0);refine ent func310 ntmps310 ?_;refine xsr<|xr 1 rfl<|xne<|xsq<|xsr<|xr 1 rfl<|xy rfl (fun a J=>Yq rfl (J.ev rfl) (J.ev rfl))<|xne<|xcs 4 rfl (fun cc1=>?_) fun cc1=>?_;refine xct rfl<|xsr ?_;refine yem 9 1 E ?_;clear E;intro w1 b1 E;refine xr 1 rfl<|xne<|xre<|xtr<|xb1 results310 rfl ?_;rw [Zah h]; exact ⟨_, _, rfl, V2 _ _ _ _, E.o.bel⟩;rw [h] at cc1; cases cc1
theorem ZeF (s : ByteArray) (w0 : World) (hp : ZG s = true) (hs : s.size ≤ 4000000000) : Calls prog 310 #[.string s] w0 fun e w' => ∃ ao cp, e = .returned (.slice ao (Zr s).length cp) ∧ Rd Zt 1 w' ao (Zr s).length (Zr s) ∧ Below w0.heap.size w0 w' := by
 cases h : (s.toList == (⟨#[47]⟩ : ByteArray).toList) with
 | true => exact Zgm s w0 h
 | false =>
  cases h2 : (s.data.toList.head? == some 47) with
  | false => rw [JA h h2] at hp; cases hp
  | true =>
   refine (Zbt s w0 h h2 (by omega)).mono fun e w' hx => ?_;obtain ⟨ao, cp, e1, e2, e3⟩ := hx;rw [Uf h];have hl := e2.len;rw [← hl] at e1 e2;exact ⟨ao, cp, e1, e2, e3⟩
theorem ZbN (s : ByteArray) (w0 : World) (hs : s.size ≤ 4000000000) : Calls prog 330 #[.string s] w0 fun e w' => (ZG s = true ∧ ∃ ao cp, e = .returned (.tuple #[.slice ao (Zr s).length cp, .bool true]) ∧ St w0 [Zg Zt 1 9 (.slice ao (Zr s).length cp) (Zr s)] w') ∨ (ZG s = false ∧ ∃ v, e = .returned (.tuple #[v, .bool false]) ∧ Below w0.heap.size w0 w') := by
 have E := Bx.mk (St.start w0);refine ent func330 ntmps330 ?_;refine xsr<|xr 2 rfl<|xne<|xsq<|xsr<|xr 1 rfl ?_;refine ycB (JG s _ hs) func263 E ?_;clear E;intro w1 E;refine xr 1 rfl<|xne<|xcs 6 rfl (fun cc1=>?_) fun cc1=>?_;have hpb : ZG s = false := by simpa using cc1
 refine xct rfl<|xsr ?_;refine yem 9 1 E ?_;clear E;intro w2 b1 E;refine xr 2 rfl<|xne<|xre<|xtr<|xb2 results330 rfl rfl ?_;exact .inr ⟨hpb, _, rfl, E.o.bel⟩;have hpb : ZG s = true := by simpa using cc1
 have hn4 := JS hpb;refine xcf rfl<|xsk<|xet<|xsr ?_;refine yem 9 1 E ?_;clear E;intro w3 b2 E;refine xr 1 rfl ?_;refine yc (ZeF s _ hpb hs) func310 ?_;rintro _ w4 ⟨aoL, cpL, rfl, hrd, hb⟩;refine ⟨_, rfl, ?_⟩; replace E := Bx.mk (E.o.later hb);clear hb;replace E := Bx.mk (E.o.nilRow Zt 1 9 (some ⟨b2, 0, none⟩));intro a J;refine Xo rfl J rfl rfl rfl (J.ev rfl) (J.ev rfl) X1 Zi E.o 0 (xs := []) rfl (ys := (Zr s)) hrd (ZL _) (by unfold maxLen; (try simp only [length_append, length_cons, length_nil, nil_append, length_map]); omega) (by (try simp only [length_append, length_cons, length_nil, nil_append, length_map]); omega) ?_; clear J E a; intro ao4 cp5 w5 a J E; replace E := Bx.mk E;revert a;refine xr 2 rfl<|xne<|xre<|xb2 results330 rfl rfl ?_;replace E:=E.pks [0];have h0 : ([] : List ByteArray).length + (Zr s).length = (Zr s).length := Nat.zero_add _; rw [h0] at E;exact .inl ⟨hpb, _, _, by rw [h0], E.o⟩
theorem Zfs (a0 : Option Addr) (c0 : Nat) (a1 : Option Addr) (c1 : Nat) (a2 : Option Addr) (c2 : Nat) (a4 : Option Addr) (c4 : Nat) (a6 : Option Addr) (c6 : Nat) (st : Za) (t : Zd) {x : List PtrD} (hx : downL (kidsS st) (depthN t.ah) [t.af] = some x) (hdep : t.aw = ((depthN t.ah : Nat) : Int)) (hxl : x.length ≤ 16) (hxok : ∀ p ∈ x, p.ok = true) (k : Nat) (hk : k < 16) (w0 : World) (hR : Rd Zt 1 w0 a0 st.ac.length st.ac) (hrow : Xg st) : Calls prog 345 #[sV a0 c0 a1 c1 a2 c2 a4 c4 a6 c6 st, tV t, .int .i64 (k : Int)] w0 fun e w' => e = .returned (.string (Zm st ((Zn x).getD k PtrD.zero))) ∧ Below w0.heap.size w0 w' := by
 have HR := Bx.mk hR; clear hR;have E := Bx.mk (St.start w0);refine ent func345 ntmps345 ?_;refine xsr ?_;refine ybx E ?_;clear E;intro w1 b1 E;refine ybx E ?_;clear E;intro w2 b2 E;refine xr 1 rfl<|xne<|xsr<|Xw 1 8 E rfl rfl<|Xw 0 7 E rfl rfl ?_;refine yc (U4 a0 c0 a1 c1 a2 c2 a4 c4 a6 c6 st t hx hdep hxl _ (HR.out.below E.o.bel) hrow) func171 ?_;rintro _ w3 ⟨ao3, cp3, rfl, hs⟩;refine ⟨_, rfl, ?_⟩;replace E := E.ad hs;clear hs;refine xr 1 rfl<|xne<|xsq ?_;have hwl := Uz hxl; have hwok := ZbC hxok;obtain ⟨g4, rfl, _, _, _, _⟩ := E.o.rowOpen 0 rfl (by omega);intro a J;refine Yi (by kernel_rfl) (by kernel_rfl) E.o ?_;revert a;refine Qw 2 8 rfl rfl<|xqr 2 rfl<|xq rfl (fun E=>vx 40 k 5 rfl)<|xq rfl (fun E a J=>ylr (cs := pL ((Zn x).getD k PtrD.zero)) rfl (J.ev rfl) (E.elem PtrD.cells_len 0 rfl (Zh (xs := Zn x) (j := k) (d := PtrD.zero) (by omega)))) ?_;refine yq (fun _ E => (JM a0 c0 a1 c1 a2 c2 a4 c4 a6 c6 st ((Zn x).getD k PtrD.zero) _ (HR.out.below E.bel) hrow (hwok _ (YD (by omega))))) func102 ?_;refine xqr 5 rfl ?_;intro a J;refine wpQuiet_nil ?_; intro w4 E; replace E := Bx.mk E;revert a;refine xet<|xsr<|xr 2 rfl<|xne<|xre<|xb1 results345 rfl ?_;exact ⟨rfl, E.o.bel⟩
def PtrD.eqv (x y : PtrD) : Bool := x.aB == y.aB && (x.aj == y.aj && (x.av == y.av && (x.aC == y.aC && x.aq == y.aq)))
theorem Zjq (x y : PtrD) (d : Nat) (w : World) : (Op.equalIn (d + 2) 40 (.agg #[.int .i64 x.aB, .int .i64 x.aj, .int .i64 x.av, .int .i64 x.aC, .int .i64 x.aq]) (.agg #[.int .i64 y.aB, .int .i64 y.aj, .int .i64 y.av, .int .i64 y.aC, .int .i64 y.aq])).run prog w = .ok (x.eqv y) w := by
 have hS : Tryz.prog.underlying 40 = some (.struct (Tryz.prog.fieldsOf 40)) := by kernel_rfl
 have hp : Tryz.prog.stoodInHeld 40 = false := by kernel_rfl
 rw [run_equalIn_agg w (d + 1) 40 _ _ hS hp];simp only [Program.fieldsOf, Tryz.underlying40];unfold PtrD.eqv
 go_simp
 by_cases h1 : x.aB = y.aB <;> by_cases h2 : x.aj = y.aj <;> by_cases h3 : x.av = y.av <;> by_cases h4 : x.aC = y.aC <;> by_cases h5 : x.aq = y.aq <;> simp [h1, h2, h3, h4, h5]
theorem Zcj {w : World} {o : Oper} {a : Act} {x y : Operand} {t' : TypeId} (p q : PtrD) (ho : o.op = .binOp .neq 40 x y t') (hx : a.eval x = .agg #[.int .i64 p.aB, .int .i64 p.aj, .int .i64 p.av, .int .i64 p.aC, .int .i64 p.aq]) (hy : a.eval y = .agg #[.int .i64 q.aB, .int .i64 q.aj, .int .i64 q.av, .int .i64 q.aC, .int .i64 q.aq]) : Yl prog w o a (.bool (!(p.eqv q))) := by
 have he := Zjq p q 9998 w;unfold Yl execOp;simp only [ho, hx, hy];simp [eqGuard, binOp, go_sem, Op.equal];rw [show Op.maxDepth = 9998 + 2 from rfl, he]; rfl
theorem Zgn {a b : List PtrD} (h : a.Sublist b) (i : Nat) : cnt a i ≤ cnt b i := (h.filter _).length_le
def Y8 (a b : List PtrD) : Prop := ∀ (f : PtrD → Bool) (i : Nat), 8 ≤ i → cnt (a.filter f) i ≤ cnt (b.filter f) i
theorem Y8.nil (b : List PtrD) : Y8 [] b := fun f i _ => Nat.zero_le _
theorem Y8.refl (b : List PtrD) : Y8 b b := fun f i _ => Nat.le_refl _
theorem Y8.app {a b c d : List PtrD} (h : Y8 a b) (k : Y8 c d) : Y8 (a ++ c) (b ++ d) := fun f i hi => by
 rw [filter_append, filter_append, Zj, Zj];have := h f i hi; have := k f i hi; omega
theorem Y8.trans {a b c : List PtrD} (h : Y8 a b) (k : Y8 b c) : Y8 a c := fun f i hi => Nat.le_trans (h f i hi) (k f i hi)
theorem Y8.swap (a b : List PtrD) : Y8 (a ++ b) (b ++ a) := fun f i _ => by
 rw [filter_append, filter_append, Zj, Zj]; omega
theorem UH {a : List PtrD} (h : ∀ q ∈ a, q.hole = true) {i : Nat} (hi : 8 ≤ i) : cnt a i = 0 := by
 unfold cnt;rw [List.length_eq_zero_iff, List.filter_eq_nil_iff];intro q hq;rw [YI (h q hq)];show ¬ ((0 : Int) == (i : Int)) = true;rw [beq_iff_eq]; omega
theorem Y8.holes {a b : List PtrD} (h : ∀ q ∈ a, q.hole = true) : Y8 a b := fun f i hi => by
 rw [UH (fun q hq => h q (List.mem_filter.1 hq).1) hi]; exact Nat.zero_le _
theorem Y8.some (a : List PtrD) : Y8 a (a.filter fun q => !q.hole) := fun f i hi => by
 induction a with
 | nil => exact Nat.le_refl _
 | cons q r ih =>
  have e : q :: r = [q] ++ r := rfl;rw [e, filter_append, filter_append, filter_append, Zj, Zj]
  cases hh : q.hole with
  | true =>
   have := UH (a := [q].filter f) (fun x hx => by have := (List.mem_filter.1 hx).1; rw [mem_singleton] at this; rw [this]; exact hh) hi
   omega
  | false =>
   rw [show [q].filter (fun q => !q.hole) = [q] by rw [List.filter_cons, hh]; rfl]
   omega
theorem PtrD.eqv_iff {x y : PtrD} : x.eqv y = true ↔ x = y := by
 unfold PtrD.eqv;simp only [Bool.and_eq_true, beq_iff_eq]
 constructor
 ·rintro ⟨a, b, c, d, e⟩; cases x; cases y; dsimp only at a b c d e; subst a; subst b; subst c; subst d; subst e; rfl
 ·rintro rfl; exact ⟨rfl, rfl, rfl, rfl, rfl⟩
structure LayI (st0 : Za) (inn R A : List PtrD) (L : List PtrD) (n : Nat) (W next back stays : List PtrD) (st : Za) (N : List PtrD) : Prop where
  inv : Inv st (N ++ (inn ++ R))
  kp : Z1 st0 st (inn ++ R)
  wfn : ∀ p ∈ next, Wf st (n + 1) p
  wfb : ∀ p ∈ back, Wf st n p
  lvs : next.flatMap (lvL st (n + 1)) ++ back.flatMap (lvL st n) = L
  acc : ∀ i, 8 ≤ i → i < 64 → cnt (next.flatMap (allL st (n + 1)) ++ back.flatMap (allL st n)) i ≤ cnt N i + cnt stays i + cnt A i
  mem : ∀ q ∈ next.flatMap (allL st (n + 1)) ++ back.flatMap (allL st n), q ∈ N ∨ (q ∈ stays ∧ q ∈ inn) ∨ q ∈ R
  sty : Y8 stays W
section
variable {st0 : Za} {inn R A L : List PtrD} {n : Nat} {W next back stays : List PtrD} {st : Za} {N : List PtrD}
theorem LayI.start {cs : List PtrD} (h : Inv st0 (inn ++ R)) (hw : ∀ p ∈ cs, Wf st0 0 p) (hc : ∀ i, 8 ≤ i → i < 64 → cnt cs i ≤ cnt A i) (hm : ∀ q ∈ cs, q.hole = true ∨ q ∈ R) : LayI st0 inn R A cs 0 [] [] cs [] st0 [] := by
 have e1 : ∀ l : List PtrD, l.flatMap (lvL st0 0) = l := fun l => by
  induction l with
  | nil => rfl
  | cons q r ih => rw [flatMap_cons, ih]; rfl
 have e2 : ∀ l : List PtrD, l.flatMap (allL st0 0) = l.filter fun q => !q.hole := fun l => by
  induction l with
  | nil => rfl
  | cons q r ih =>
   rw [flatMap_cons, ih, List.filter_cons]
   cases hh : q.hole with
   | true => rw [ZT hh]; rfl
   | false => rw [Qn hh]; rfl
 refine ⟨h, Z1.refl _ _, fun p hp => (nomatch hp), hw, e1 cs, fun i h8 hi => ?_, fun q hq => ?_, Y8.nil _⟩
 ·show cnt (cs.flatMap (allL st0 0)) i ≤ _
  rw [e2];have := Zgn (List.filter_sublist (p := fun q : PtrD => !q.hole) (l := cs)) i;have := hc i h8 hi
  omega
 ·have hq : q ∈ cs.flatMap (allL st0 0) := hq
  rw [e2, List.mem_filter] at hq;rcases hm q hq.1 with h | h
  ·rw [h] at hq; cases hq.2
  ·exact .inr (.inr h)
theorem LayI.pad (h : LayI st0 inn R A L n W [] back stays st N) (k : Nat) : LayI st0 inn R A (L ++ replicate (k * 4 ^ n) PtrD.zero) n W [] (back ++ replicate k PtrD.zero) stays st N := by
 have hO := Za.ok_spec h.inv.ok;have ea : (replicate k PtrD.zero).flatMap (allL st n) = [] := by
  rw [List.flatMap_eq_nil_iff]; intro q hq; rw [(mem_replicate.1 hq).2]; exact ZT XS n
 have el : (replicate k PtrD.zero).flatMap (lvL st n) = replicate (k * 4 ^ n) PtrD.zero := by
  induction k with
  | zero => simp
  | succ k ih =>
   rw [List.replicate_succ, flatMap_cons, ih (by rw [List.flatMap_eq_nil_iff]; intro q hq; rw [(mem_replicate.1 hq).2]; exact ZT XS n), ZbF XS, List.replicate_append_replicate]
   congr 1; rw [Nat.add_mul]; omega
 refine ⟨h.inv, h.kp, fun p hp => (nomatch hp), fun p hp => ?_, ?_, fun i h8 hi => ?_, fun q hq => ?_, h.sty⟩
 ·rcases mem_append.1 hp with hp | hp
  ·exact h.wfb p hp
  ·rw [(mem_replicate.1 hp).2]; exact Wf.zero (by have := hO.txg; omega) n
 ·rw [List.flatMap_append, el, ← List.append_assoc, h.lvs]
 ·have := h.acc i h8 hi
  rw [List.flatMap_append, ea, append_nil]; exact this
 ·rw [List.flatMap_append, ea, append_nil] at hq; exact h.mem q hq
theorem LayI.turn (h : LayI st0 inn R A L n W next [] stays st N) : LayI st0 inn R A L (n + 1) W [] next stays st N :=
 ⟨h.inv, h.kp, fun p hp => (nomatch hp), h.wfn, by have := h.lvs; rw [flatMap_nil, append_nil] at this; exact this,
  fun i h8 hi => by have := h.acc i h8 hi; rw [flatMap_nil, append_nil] at this; exact this,
  fun q hq => h.mem q (by rw [flatMap_nil, append_nil]; exact hq), h.sty⟩
theorem LayI.step {c back' : List PtrD} (h : LayI st0 inn R A L n W next (c ++ back') stays st N) {st' : Za} {N' stays' : List PtrD} {p w : PtrD}
  (hinv : Inv st' (N' ++ (inn ++ R))) (hkp : Z1 st st' (N ++ (inn ++ R))) (hpo : p.ok = true) (hpb : p.aj ≤ st'.ar) (hk : kids st' p ((n + 1 : Nat) : Int) = some c)
  (hcnt : ∀ i, 8 ≤ i → i < 64 → cnt [p] i + cnt N i + cnt stays i ≤ cnt N' i + cnt stays' i) (hp : p.hole = true ∨ p ∈ N' ∨ (p ∈ stays' ∧ p ∈ inn)) (hN : ∀ q ∈ N, q ∈ N') (hs : ∀ q ∈ stays, q ∈ stays') (hst : Y8 stays' (W ++ [w])) :
  LayI st0 inn R A L n (W ++ [w]) (next ++ [p]) back' stays' st' N' := by
 have hr := hkp.rows;have hcl : ∀ {l : List PtrD} {m : Nat}, (∀ q ∈ l.flatMap (allL st m), q ∈ N ∨ (q ∈ stays ∧ q ∈ inn) ∨ q ∈ R) → ∀ x ∈ l, ∀ q ∈ allL st m x, q ∈ N ++ (inn ++ R) := fun hm x hx q hq => by
  rcases hm q (List.mem_flatMap.2 ⟨x, hx, hq⟩) with a | a | a
  ·exact mem_append_left _ a
  ·exact mem_append_right _ (mem_append_left _ a.2)
  ·exact mem_append_right _ (mem_append_right _ a)
 have hmn : ∀ q ∈ next.flatMap (allL st (n + 1)), q ∈ N ∨ (q ∈ stays ∧ q ∈ inn) ∨ q ∈ R := fun q hq => h.mem q (mem_append_left _ hq)
 have hmb : ∀ q ∈ (c ++ back').flatMap (allL st n), q ∈ N ∨ (q ∈ stays ∧ q ∈ inn) ∨ q ∈ R := fun q hq => h.mem q (mem_append_right _ hq)
 have tn : ∀ x ∈ next, Wf st' (n + 1) x ∧ allL st' (n + 1) x = allL st (n + 1) x ∧ lvL st' (n + 1) x = lvL st (n + 1) x := fun x hx => (h.wfn x hx).rows hr (hcl hmn x hx)
 have tb : ∀ x ∈ c ++ back', Wf st' n x ∧ allL st' n x = allL st n x ∧ lvL st' n x = lvL st n x := fun x hx => (h.wfb x hx).rows hr (hcl hmb x hx)
 have tc : ∀ x ∈ c, Wf st' n x ∧ allL st' n x = allL st n x ∧ lvL st' n x = lvL st n x := fun x hx => tb x (mem_append_left _ hx)
 have t2 : ∀ x ∈ back', Wf st' n x ∧ allL st' n x = allL st n x ∧ lvL st' n x = lvL st n x := fun x hx => tb x (mem_append_right _ hx)
 have en : next.flatMap (allL st' (n + 1)) = next.flatMap (allL st (n + 1)) := Ys fun x hx => (tn x hx).2.1
 have e2 : back'.flatMap (allL st' n) = back'.flatMap (allL st n) := Ys fun x hx => (t2 x hx).2.1
 have ec : c.flatMap (allL st' n) = c.flatMap (allL st n) := Ys fun x hx => (tc x hx).2.1
 have hpa : ∀ q ∈ allL st' (n + 1) p, (p.hole = false ∧ q = p) ∨ q ∈ c.flatMap (allL st n) := fun q hq => by
  cases hh : p.hole with
  | true => rw [ZT hh] at hq; cases hq
  | false =>
   rw [YP hh hk, ec] at hq;rcases mem_cons.1 hq with rfl | hq
   ·exact .inl ⟨rfl, rfl⟩
   ·exact .inr hq
 have hpc : ∀ i, 8 ≤ i → cnt (allL st' (n + 1) p) i ≤ cnt [p] i + cnt (c.flatMap (allL st n)) i := fun i _ => by
  cases hh : p.hole with
  | true => rw [ZT hh]; exact Nat.zero_le _
  | false => rw [YP hh hk, ec, show p :: c.flatMap (allL st n) = [p] ++ c.flatMap (allL st n) from rfl, Zj]; exact Nat.le_refl _
 have hup : ∀ q, (q ∈ N ∨ (q ∈ stays ∧ q ∈ inn) ∨ q ∈ R) → q ∈ N' ∨ (q ∈ stays' ∧ q ∈ inn) ∨ q ∈ R := fun q hq => by
  rcases hq with a | a | a
  ·exact .inl (hN q a)
  ·exact .inr (.inl ⟨hs q a.1, a.2⟩)
  ·exact .inr (.inr a)
 refine ⟨hinv, h.kp.trans (hkp.mono fun q hq => mem_append_right _ hq), fun x hx => ?_, fun x hx => (t2 x hx).1, ?_, fun i h8 hi => ?_, fun q hq => ?_, hst⟩
 ·rcases mem_append.1 hx with hx | hx
  ·exact (tn x hx).1
  ·rw [mem_singleton.1 hx]; exact ⟨hpo, hpb, c, hk, fun y hy => (tc y hy).1⟩
 ·rw [List.flatMap_append, flatMap_cons, flatMap_nil, append_nil, QF hk, Ys fun x hx => (tn x hx).2.2, Ys fun x hx => (tc x hx).2.2, Ys fun x hx => (t2 x hx).2.2, ← h.lvs, List.flatMap_append, List.append_assoc]
 ·have h1 := h.acc i h8 hi
  have h2 := hcnt i h8 hi;have h3 := hpc i h8;rw [List.flatMap_append, Zj, Zj] at h1;rw [List.flatMap_append, flatMap_cons, flatMap_nil, append_nil, en, e2, Zj, Zj]
  omega
 ·rw [List.flatMap_append, flatMap_cons, flatMap_nil, append_nil, en, e2] at hq
  rcases mem_append.1 hq with hq | hq
  ·rcases mem_append.1 hq with hq | hq
   ·exact hup q (hmn q hq)
   ·rcases hpa q hq with ⟨hh, rfl⟩ | hq
    ·rcases hp with a | a | a
     ·rw [hh] at a; cases a
     ·exact .inl a
     ·exact .inr (.inl a)
    ·exact hup q (hmb q (by rw [List.flatMap_append]; exact mem_append_left _ hq))
  ·exact hup q (hmb q (by rw [List.flatMap_append]; exact mem_append_right _ hq))
def QH (stays : List PtrD) (p w : PtrD) : List PtrD := if p.eqv w then stays ++ [p] else stays
theorem Zck (h : Y8 stays W) (p w : PtrD) : Y8 (QH stays p w) (W ++ [w]) := by
 unfold QH
 split
 ·next e => rw [PtrD.eqv_iff.1 e]; exact h.app (Y8.refl _)
 ·have := h.app (Y8.nil [w]); rwa [append_nil] at this
theorem Zcl {p w q : PtrD} (h : q ∈ stays) : q ∈ QH stays p w := by
 unfold QH
 split
 ·exact mem_append_left _ h
 ·exact h
theorem Zft (p w : PtrD) (i : Nat) : cnt stays i ≤ cnt (QH stays p w) i := by
 unfold QH
 split
 ·rw [Zj]; omega
 ·exact Nat.le_refl _
theorem LayI.hole {c back' : List PtrD} (h : LayI st0 inn R A L n W next (c ++ back') stays st N) (hc : c.length = 4) (hh : c.all (fun p => p.hole) = true) (w : PtrD) : LayI st0 inn R A L n (W ++ [w]) (next ++ [PtrD.zero]) back' (QH stays PtrD.zero w) st N := by
 have hO := Za.ok_spec h.inv.ok;have e : c = YC := by
  obtain ⟨a, b, x, y, rfl⟩ : ∃ a b x y, c = [a, b, x, y] := by
   match c, hc with
   | [a, b, x, y], _ => exact ⟨a, b, x, y, rfl⟩
  simp only [List.all_cons, List.all_nil, Bool.and_true, Bool.and_eq_true] at hh;rw [YI hh.1, YI hh.2.1, YI hh.2.2.1, YI hh.2.2.2]; rfl
 refine h.step h.inv (Z1.refl _ _) rfl (by show (0 : Int) ≤ _; have := hO.txg; omega) (by rw [e]; exact Jo rfl) (fun i h8 hi => ?_) (.inl rfl) (fun q hq => hq) (fun q hq => Zcl hq) (Zck h.sty _ _);have := UH (a := [PtrD.zero]) (fun q hq => by rw [mem_singleton.1 hq]; rfl) h8;have := Zft (stays := stays) PtrD.zero w i
 omega
theorem LayI.reuse {c back' : List PtrD} (h : LayI st0 inn R A L n W next (c ++ back') stays st N) {w : PtrD} (hf : IsFan (Yj st w) c) (hh : w.hole = false) (hw : Wf st0 (n + 1) w) (hi : w ∈ inn) : LayI st0 inn R A L n (W ++ [w]) (next ++ [w]) back' (QH stays w w) st N := by
 have hrow : Yj st w = Yj st0 w := h.kp.row w (mem_append_left _ hi) hw.ok.1 hh;obtain ⟨ho, hb, l, hk, hl⟩ := hw;have hk2 : kids st w ((n + 1 : Nat) : Int) = some l := by rw [ZbE fun _ => hrow]; exact hk
 have e : l = c := by
  rcases (QE hk2).2.2 with ⟨a, _⟩ | ⟨_, _, hr, hfl, _⟩
  ·rw [hh] at a; cases a
  ·rw [QD hh] at hr
   rw [Jn hh hr] at hfl;exact hfl.one hf
 have hs : QH stays w w = stays ++ [w] := by unfold QH; rw [if_pos (PtrD.eqv_iff.2 rfl)]
 refine h.step h.inv (Z1.refl _ _) ho (by rw [h.kp.txg]; exact hb) (by rw [hk2, e]) (fun i h8 hi => ?_) (.inr (.inr ⟨?_, hi⟩)) (fun q hq => hq) (fun q hq => Zcl hq) (Zck h.sty _ _)
 ·rw [hs, Zj]; omega
 ·rw [hs]; exact mem_append_right _ (mem_singleton.2 rfl)
theorem LayI.fresh {c back' : List PtrD} (h : LayI st0 inn R A L n W next (c ++ back') stays st N) (hf : IsFan (fanB c) c) (hsz : inB (fanB c).size 1 128 = true) (hn : n + 1 ≤ 2) {i : Nat} (hi : i < 64) (hw : writeAt st (fanB c) ((n + 1 : Nat) : Int) = i) (w : PtrD) :
  LayI st0 inn R A L n (W ++ [w]) (next ++ [YM (i : Int) st.ar ((n + 1 : Nat) : Int) (fanB c)]) back' (QH stays (YM (i : Int) st.ar ((n + 1 : Nat) : Int) (fanB c)) w) (st.putAt i (st.ac.set i (fanB c))) (YM (i : Int) st.ar ((n + 1 : Nat) : Int) (fanB c) :: N) := by
 have hlv : inB ((n + 1 : Nat) : Int) 0 2 = true := XF (by omega) (by omega);obtain ⟨hI, hK, hR⟩ := h.inv.write hsz hlv hi hw;obtain ⟨_, _, _, hpk, _⟩ := Zma h.inv.ok hsz hlv hi hw;have hO := Za.ok_spec h.inv.ok;have hpo : (YM (i : Int) st.ar ((n + 1 : Nat) : Int) (fanB c)).ok = true := by unfold Xu at hpk; rw [Bool.and_eq_true] at hpk; exact hpk.2
 have hph : (YM (i : Int) st.ar ((n + 1 : Nat) : Int) (fanB c)).hole = false := by
  cases hh : (YM (i : Int) st.ar ((n + 1 : Nat) : Int) (fanB c)).hole with
  | false => rfl
  | true =>
   have e : (YM (i : Int) st.ar ((n + 1 : Nat) : Int) (fanB c)).aq = 0 := by rw [YI hh]; rfl
   have e2 : (YM (i : Int) st.ar ((n + 1 : Nat) : Int) (fanB c)).aq = ((n + 1 : Nat) : Int) := rfl
   omega
 have hfit : X3 (YM (i : Int) st.ar ((n + 1 : Nat) : Int) (fanB c)) (fanB c) = true := by
  unfold X3; rw [hpo, hph];show (true && (true && (((fanB c).size : Int) == ((fanB c).size : Int) && (Us (fanB c) == Us (fanB c))))) = true
  simp
 refine h.step (by rw [List.cons_append]; exact hI) hK hpo (Int.le_refl _) (ZdG hph (by rw [QD hph, hR]; exact hfit) (beq_self_eq_true _) (by rw [Jn hph (by rw [hR]; exact hfit), hR]; exact hf) ?_) (fun j h8 hj => ?_) (.inr (.inl (mem_cons_self ..))) (fun q hq => mem_cons_of_mem _ hq) (fun q hq => Zcl hq) (Zck h.sty _ _)
 ·rw [List.any_eq_false]
  intro k hk;have := (h.wfb k (mem_append_left _ hk)).ok.2;rw [decide_eq_true_eq];show ¬ st.ar < k.aj
  omega
 ·have := Zft (stays := stays) (YM (i : Int) st.ar ((n + 1 : Nat) : Int) (fanB c)) w j
  rw [show YM (i : Int) st.ar ((n + 1 : Nat) : Int) (fanB c) :: N = [YM (i : Int) st.ar ((n + 1 : Nat) : Int) (fanB c)] ++ N from rfl, Zj]
  omega
end
theorem ZbO {p : PtrD} (h : p.ok = true) : (ZV p).size ≤ 21 := by
 cases hh : p.hole with
 | true => rw [Qj h hh]; decide
 | false =>
  rw [Ut h hh];unfold PtrD.ok at h;rw [hh, Bool.false_or] at h;simp only [Bool.and_eq_true] at h;obtain ⟨⟨⟨⟨h1, h2⟩, h3⟩, h4⟩, h5⟩ := h;have h1 := Zu h1; have h2 := Zu h2; have h3 := Zu h3; have h4 := Zu h4; have h5 := Zu h5;have e : ∀ {n : Int} {k : Nat}, 0 ≤ n → n < ((10 ^ (k + 1) : Nat) : Int) → k ≤ 8 → (ZF n).size ≤ k + 1 := fun {n k} h0 h1 h8 => by
   rw [YH h0 (by
    have : (10 : Nat) ^ (k + 1) ≤ 10 ^ 9 := Nat.pow_le_pow_right (by omega) (by omega)
    omega)]
   exact V6 (by omega)
  have a1 := e (n := p.aB) (k := 1) (by omega) (by show p.aB < ((100 : Nat) : Int); omega) (by omega);have a2 := e (n := p.aj) (k := 2) (by omega) (by show p.aj < ((1000 : Nat) : Int); omega) (by omega);have a3 := e (n := p.av) (k := 2) (by omega) (by show p.av < ((1000 : Nat) : Int); omega) (by omega);have a4 := e (n := p.aC) (k := 7) (by omega) (by show p.aC < ((100000000 : Nat) : Int); omega) (by omega);have a5 := e (n := p.aq) (k := 0) (by omega) (by show p.aq < ((10 : Nat) : Int); omega) (by omega);simp only [Zk, show Zb7.size = 1 from rfl]
  omega
theorem Zkr (a b c d : PtrD) : (fanB [a, b, c, d]).size = (ZV a).size + (ZV b).size + (ZV c).size + (ZV d).size + 3 := by
 unfold fanB Qz;rw [Zf];simp [Go.Lib.join, Go.Lib.joinTail, ZlT, ← Zf]
 omega
theorem ZnC {c : List PtrD} (h : c.length = 4) : ∃ a b x y, c = [a, b, x, y] := by
 match c, h with
 | [a, b, x, y], _ => exact ⟨a, b, x, y, rfl⟩
theorem ZbP {c : List PtrD} (hn : c.length = 4) (ho : ∀ p ∈ c, p.ok = true) : inB ((fanB c).size : Int) 1 128 = true := by
 obtain ⟨a, b, x, y, rfl⟩ := ZnC hn;rw [Zkr];have h1 := ZbO (ho a (by simp)); have h2 := ZbO (ho b (by simp)); have h3 := ZbO (ho x (by simp)); have h4 := ZbO (ho y (by simp));exact XF (by omega) (by omega)
def Xb (st : Za) (c : List PtrD) (w : PtrD) : Bool := !w.hole && (X3 w (fanB c) && ((Yj st w).toList == (fanB c).toList))
structure ZeG where
  st : Za
  p : PtrD
  ok : Bool
def Ya (st : Za) (c : List PtrD) (lv : Int) (w : PtrD) : ZeG :=
 if c.all (fun p => p.hole) = true then ⟨st, PtrD.zero, true⟩
 else if Xb st c w = true then ⟨st, w, true⟩
 else if writeAt st (fanB c) lv < 64 then ⟨st.putAt (writeAt st (fanB c) lv) (st.ac.set (writeAt st (fanB c) lv) (fanB c)), YM (writeAt st (fanB c) lv : Nat) st.ar lv (fanB c), true⟩
 else ⟨st, PtrD.zero, false⟩
section
variable {st : Za} {c : List PtrD} {lv : Int} {w : PtrD}
theorem U8 (h : c.all (fun p => p.hole) = true) : Ya st c lv w = ⟨st, PtrD.zero, true⟩ := by unfold Ya; rw [if_pos h]
theorem U9 (h : c.all (fun p => p.hole) = false) (hs : Xb st c w = true) : Ya st c lv w = ⟨st, w, true⟩ := by unfold Ya; rw [if_neg (by rw [h]; decide), if_pos hs]
theorem Zea (h : c.all (fun p => p.hole) = false) (hs : Xb st c w = false) (hw : writeAt st (fanB c) lv = 64) : Ya st c lv w = ⟨st, PtrD.zero, false⟩ := by unfold Ya; rw [if_neg (by rw [h]; decide), if_neg (by rw [hs]; decide), if_neg (by omega)]
theorem ZcV (h : c.all (fun p => p.hole) = false) (hs : Xb st c w = false) {i : Nat} (hi : i < 64) (hw : writeAt st (fanB c) lv = i) : Ya st c lv w = ⟨st.putAt i (st.ac.set i (fanB c)), YM (i : Int) st.ar lv (fanB c), true⟩ := by unfold Ya; rw [if_neg (by rw [h]; decide), if_neg (by rw [hs]; decide), hw, if_pos hi]
theorem Zgo (h : st.ok = true) : Inv st [] := ⟨h, fun i _ hi => by
 have := YQ.1 (Za.ok_spec h).owed i hi;show ((cnt [] i + cnt (st.ai ++ st.al) i : Nat) : Int) ≤ _;rw [Jg]; omega⟩
theorem JT (st : Za) (text : ByteArray) (level : Int) : writeAt st text level ≤ 64 := by
 unfold writeAt
 split
 ·omega
 ·have := X0 (Zbk st) 56 8; omega
theorem Zjr {text : ByteArray} {level : Int} (h : st.ok = true) (hsz : inB (text.size : Int) 1 128 = true) (hlv : inB level 0 2 = true) {i : Nat} (hi : i < 64) (hw : writeAt st text level = i) : (st.putAt i (st.ac.set i text)).ok = true := ((Zgo h).write hsz hlv hi hw).1.ok
theorem Zgp {text : ByteArray} {level : Int} (h : st.ok = true) (hsz : inB (text.size : Int) 1 128 = true) (hlv : inB level 0 2 = true) {i : Nat} (hi : i < 64) (hw : writeAt st text level = i) : (YM (i : Int) st.ar level text).ok = true := by
 have hp := (Zma h hsz hlv hi hw).2.2.2.1;unfold Xu at hp; rw [Bool.and_eq_true] at hp; exact hp.2
structure Ja (st s : Za) : Prop where
  ok : st.ok = true → s.ok = true
  txg : s.ar = st.ar
  keep : s.ax = st.ax
  same : s.az = st.az
  gone : s.ai = st.ai
  dead : s.al = st.al
theorem Ja.refl (st : Za) : Ja st st := ⟨id, rfl, rfl, rfl, rfl, rfl⟩
theorem Ja.trans {a b c : Za} (h : Ja a b) (k : Ja b c) : Ja a c := ⟨fun e => k.ok (h.ok e), k.txg.trans h.txg, k.keep.trans h.keep, k.same.trans h.same, k.gone.trans h.gone, k.dead.trans h.dead⟩
theorem Zgq (hn : c.length = 4) (ho : ∀ p ∈ c, p.ok = true) (hlv : inB lv 0 2 = true) (hw : w.ok = true) (h0 : st.ok = true) : Ja st (Ya st c lv w).st ∧ (Ya st c lv w).p.ok = true := by
 cases ha : c.all (fun p => p.hole) with
 | true => rw [U8 ha]; exact ⟨Ja.refl _, rfl⟩
 | false =>
  cases hs : Xb st c w with
  | true => rw [U9 ha hs]; exact ⟨Ja.refl _, hw⟩
  | false =>
   by_cases hi : writeAt st (fanB c) lv < 64
   ·rw [ZcV ha hs hi rfl]
    exact ⟨⟨fun h => Zjr h (ZbP hn ho) hlv hi rfl, rfl, rfl, rfl, rfl, rfl⟩, Zgp h0 (ZbP hn ho) hlv hi rfl⟩
   ·rw [Zea ha hs (by have := JT st (fanB c) lv; omega)]; exact ⟨Ja.refl _, rfl⟩
end
structure Zc5 where
  st : Za
  next : List PtrD
  stays : List PtrD
  ok : Bool
def YZ (lv : Int) : Nat → List PtrD → List PtrD → Za → List PtrD → List PtrD → Zc5
 | 0, _, _, st, next, stays => ⟨st, next, stays, true⟩
 | m + 1, back, was, st, next, stays =>
  if (Ya st (back.take 4) lv (was.headD PtrD.zero)).ok = true
  then YZ lv m (back.drop 4) (was.drop 1) (Ya st (back.take 4) lv (was.headD PtrD.zero)).st (next ++ [(Ya st (back.take 4) lv (was.headD PtrD.zero)).p]) (QH stays (Ya st (back.take 4) lv (was.headD PtrD.zero)).p (was.headD PtrD.zero))
  else ⟨(Ya st (back.take 4) lv (was.headD PtrD.zero)).st, next, stays, false⟩
theorem Zks {lv : Int} {back was next stays : List PtrD} {st : Za} : YZ lv 0 back was st next stays = ⟨st, next, stays, true⟩ := rfl
theorem Zhz {lv : Int} {m : Nat} {back was next stays : List PtrD} {st s : Za} {p : PtrD} (h : Ya st (back.take 4) lv (was.headD PtrD.zero) = ⟨s, p, true⟩) : YZ lv (m + 1) back was st next stays = YZ lv m (back.drop 4) (was.drop 1) s (next ++ [p]) (QH stays p (was.headD PtrD.zero)) := by
 rw [YZ, h, if_pos rfl]
theorem Zjs {lv : Int} {m : Nat} {back was next stays : List PtrD} {st s : Za} {p : PtrD} (h : Ya st (back.take 4) lv (was.headD PtrD.zero) = ⟨s, p, false⟩) : YZ lv (m + 1) back was st next stays = ⟨s, next, stays, false⟩ := by
 rw [YZ, h, if_neg Bool.false_ne_true]
def Xv (l : List PtrD) : List PtrD := l ++ replicate ((4 - l.length % 4) % 4) PtrD.zero
theorem VS (l : List PtrD) : (Xv l).length = (l.length + 3) / 4 * 4 := by unfold Xv; rw [length_append, List.length_replicate]; omega
theorem ZnD {l : List PtrD} (h : ∀ p ∈ l, p.ok = true) : ∀ p ∈ Xv l, p.ok = true := fun p hp => by
 unfold Xv at hp;rcases mem_append.1 hp with hp | hp
 ·exact h p hp
 ·rw [(mem_replicate.1 hp).2]; rfl
noncomputable def Z9 (st : Za) (t : Zd) (depth lv : Nat) : List PtrD :=
 if t.aw = (depth : Int) then (if lv = depth then [t.af] else (kidsS st t.af (depth : Int)).getD YC) else YC
noncomputable def XC (t : Zd) (depth : Nat) : Nat → Nat → Za → List PtrD → List PtrD → Zc5
 | 0, _, st, list, stays => ⟨st, list, stays, true⟩
 | n + 1, lv, st, list, stays =>
  if (YZ (lv : Int) ((Xv list).length / 4) (Xv list) (Z9 st t depth lv) st [] stays).ok = true
  then XC t depth n (lv + 1) (YZ (lv : Int) ((Xv list).length / 4) (Xv list) (Z9 st t depth lv) st [] stays).st (YZ (lv : Int) ((Xv list).length / 4) (Xv list) (Z9 st t depth lv) st [] stays).next (YZ (lv : Int) ((Xv list).length / 4) (Xv list) (Z9 st t depth lv) st [] stays).stays
  else YZ (lv : Int) ((Xv list).length / 4) (Xv list) (Z9 st t depth lv) st [] stays
theorem Zcm {t : Zd} {depth lv : Nat} {st : Za} {list stays : List PtrD} : XC t depth 0 lv st list stays = ⟨st, list, stays, true⟩ := rfl
theorem Zmq {t : Zd} {depth n lv : Nat} {st s : Za} {list stays next sy : List PtrD} (h : YZ (lv : Int) ((Xv list).length / 4) (Xv list) (Z9 st t depth lv) st [] stays = ⟨s, next, sy, true⟩) : XC t depth (n + 1) lv st list stays = XC t depth n (lv + 1) s next sy := by
 rw [XC, h, if_pos rfl]
theorem ZnE {t : Zd} {depth n lv : Nat} {st s : Za} {list stays next sy : List PtrD} (h : YZ (lv : Int) ((Xv list).length / 4) (Xv list) (Z9 st t depth lv) st [] stays = ⟨s, next, sy, false⟩) : XC t depth (n + 1) lv st list stays = ⟨s, next, sy, false⟩ := by
 rw [XC, h, if_neg Bool.false_ne_true]
noncomputable def ZD (st : Za) (t : Zd) : List PtrD :=
 if t.aw = 0 ∨ t.af.hole = true then [] else t.af :: (if t.aw = 2 then ((kidsS st t.af 2).getD []).filter (fun p => !p.hole) else [])
def Q0 (stays : List PtrD) (p : PtrD) : Bool := stays.any fun q => q.eqv p
def Vj (stays : List PtrD) : List PtrD → Za → Za
 | [], s => s
 | p :: r, s => Vj stays r (if Q0 stays p = true then s else s.free p)
structure JU where
  st : Za
  t : Zd
  ok : Bool
def tree0 : Zd := ⟨PtrD.zero, 0, 0⟩
noncomputable def Xy (st : Za) (t : Zd) (leaves : List PtrD) (many : Nat) : JU :=
 if (XC t (depthN many) (depthN many) 1 st (leaves.take many) []).ok = true
 then ⟨Vj (XC t (depthN many) (depthN many) 1 st (leaves.take many) []).stays (ZD st t) (XC t (depthN many) (depthN many) 1 st (leaves.take many) []).st, ⟨(XC t (depthN many) (depthN many) 1 st (leaves.take many) []).next.headD PtrD.zero, (depthN many : Nat), many⟩, true⟩
 else ⟨(XC t (depthN many) (depthN many) 1 st (leaves.take many) []).st, tree0, false⟩
theorem Zeb {st s : Za} {t : Zd} {leaves list stays : List PtrD} {many : Nat} (h : XC t (depthN many) (depthN many) 1 st (leaves.take many) [] = ⟨s, list, stays, true⟩) : Xy st t leaves many = ⟨Vj stays (ZD st t) s, ⟨list.headD PtrD.zero, (depthN many : Nat), many⟩, true⟩ := by
 unfold Xy; rw [h, if_pos rfl]
theorem Zjt {st s : Za} {t : Zd} {leaves list stays : List PtrD} {many : Nat} (h : XC t (depthN many) (depthN many) 1 st (leaves.take many) [] = ⟨s, list, stays, false⟩) : Xy st t leaves many = ⟨s, tree0, false⟩ := by
 unfold Xy; rw [h, if_neg Bool.false_ne_true]
def Yu (st : Za) (text : ByteArray) (level : Int) : ZeG :=
 if writeAt st text level < 64 then ⟨st.putAt (writeAt st text level) (st.ac.set (writeAt st text level) text), YM (writeAt st text level : Nat) st.ar level text, true⟩
 else ⟨st, PtrD.zero, false⟩
theorem UI {st : Za} {text : ByteArray} {level : Int} (h : writeAt st text level = 64) : Yu st text level = ⟨st, PtrD.zero, false⟩ := by unfold Yu; rw [if_neg (by omega)]
theorem JV {st : Za} {text : ByteArray} {level : Int} {i : Nat} (hi : i < 64) (h : writeAt st text level = i) : Yu st text level = ⟨st.putAt i (st.ac.set i text), YM (i : Int) st.ar level text, true⟩ := by unfold Yu; rw [h, if_pos hi]
theorem Za1 {st : Za} {c : List PtrD} {lv : Int} {w : PtrD} (h : c.all (fun p => p.hole) = false) (hs : Xb st c w = false) : Ya st c lv w = Yu st (fanB c) lv := by
 unfold Ya Yu; rw [if_neg (by rw [h]; decide), if_neg (by rw [hs]; decide)]
theorem ZhA {st : Za} {text : ByteArray} {level : Int} (h0 : st.ok = true) (hsz : inB (text.size : Int) 1 128 = true) (hlv : inB level 0 2 = true) : Ja st (Yu st text level).st ∧ (Yu st text level).p.ok = true := by
 by_cases hi : writeAt st text level < 64
 ·rw [JV hi rfl]
  exact ⟨⟨fun h => Zjr h hsz hlv hi rfl, rfl, rfl, rfl, rfl, rfl⟩, Zgp h0 hsz hlv hi rfl⟩
 ·rw [UI (by have := JT st text level; omega)]; exact ⟨Ja.refl _, rfl⟩
def Xz (st : Za) (old : PtrD) (text : ByteArray) : ZeG :=
 if ((Zm st old).toList == text.toList) = true then ⟨st, old, true⟩ else if text.size = 0 then ⟨st, PtrD.zero, true⟩ else Yu st text 0
theorem UJ {st : Za} {old : PtrD} {text : ByteArray} (h : ((Zm st old).toList == text.toList) = true) : Xz st old text = ⟨st, old, true⟩ := by unfold Xz; rw [if_pos h]
theorem Zai {st : Za} {old : PtrD} {text : ByteArray} (h : ((Zm st old).toList == text.toList) = false) (h0 : text.size = 0) : Xz st old text = ⟨st, PtrD.zero, true⟩ := by unfold Xz; rw [if_neg (by rw [h]; decide), if_pos h0]
theorem VT {st : Za} {old : PtrD} {text : ByteArray} (h : ((Zm st old).toList == text.toList) = false) (h0 : text.size ≠ 0) : Xz st old text = Yu st text 0 := by unfold Xz; rw [if_neg (by rw [h]; decide), if_neg h0]
noncomputable def Y9 (st : Za) (t : Zd) (x : List PtrD) (k : Nat) (text : ByteArray) : JU :=
 if ((Zm st ((Zn x).getD k PtrD.zero)).toList == text.toList) = true ∧ max t.ah ((k : Int) + 1) = t.ah then ⟨st, t, true⟩
 else if (Xz st ((Zn x).getD k PtrD.zero) text).ok = true then
  if (Xy (Xz st ((Zn x).getD k PtrD.zero) text).st t ((Zn x).set k (Xz st ((Zn x).getD k PtrD.zero) text).p) (max t.ah ((k : Int) + 1)).toNat).ok = true
  then ⟨if (Xz st ((Zn x).getD k PtrD.zero) text).p.eqv ((Zn x).getD k PtrD.zero) = true then (Xy (Xz st ((Zn x).getD k PtrD.zero) text).st t ((Zn x).set k (Xz st ((Zn x).getD k PtrD.zero) text).p) (max t.ah ((k : Int) + 1)).toNat).st else (Xy (Xz st ((Zn x).getD k PtrD.zero) text).st t ((Zn x).set k (Xz st ((Zn x).getD k PtrD.zero) text).p) (max t.ah ((k : Int) + 1)).toNat).st.free ((Zn x).getD k PtrD.zero), (Xy (Xz st ((Zn x).getD k PtrD.zero) text).st t ((Zn x).set k (Xz st ((Zn x).getD k PtrD.zero) text).p) (max t.ah ((k : Int) + 1)).toNat).t, true⟩
  else Xy (Xz st ((Zn x).getD k PtrD.zero) text).st t ((Zn x).set k (Xz st ((Zn x).getD k PtrD.zero) text).p) (max t.ah ((k : Int) + 1)).toNat
 else ⟨st, t, false⟩
section
variable {st s : Za} {t y : Zd} {x : List PtrD} {k : Nat} {text : ByteArray} {old p : PtrD}
theorem UK {r : ZeG} {b : Bool} (h : r.ok = b) : r = ⟨r.st, r.p, b⟩ := by subst h; rfl
theorem Zec (ho : (Zn x).getD k PtrD.zero = old) (h : ((Zm st old).toList == text.toList) = true) (hm : max t.ah ((k : Int) + 1) = t.ah) : Y9 st t x k text = ⟨st, t, true⟩ := by
 subst ho; unfold Y9; rw [if_pos ⟨h, hm⟩]
theorem Zfu {s : Za} (ho : (Zn x).getD k PtrD.zero = old) (h : ((Zm st old).toList == text.toList) = false) (hp : Xz st old text = ⟨s, p, false⟩) : Y9 st t x k text = ⟨st, t, false⟩ := by
 subst ho; unfold Y9; rw [if_neg fun e => by rw [h] at e; exact absurd e.1 (by decide), hp, if_neg Bool.false_ne_true]
theorem X6 {many : Nat} (ho : (Zn x).getD k PtrD.zero = old) (hm : max t.ah ((k : Int) + 1) = (many : Int)) (h : ¬ (((Zm st old).toList == text.toList) = true ∧ (many : Int) = t.ah)) (hp : Xz st old text = ⟨s, p, true⟩) :
  Y9 st t x k text = (if (Xy s t ((Zn x).set k p) many).ok = true then ⟨if p.eqv old = true then (Xy s t ((Zn x).set k p) many).st else (Xy s t ((Zn x).set k p) many).st.free old, (Xy s t ((Zn x).set k p) many).t, true⟩ else Xy s t ((Zn x).set k p) many) := by
 subst ho; unfold Y9; rw [hm, if_neg h, hp, if_pos rfl, Int.toNat_natCast]
end
def X8 (l : List PtrD) (st : Za) : Za := l.foldl (fun s p => s.free p) st
noncomputable def QL (st : Za) (t : Zd) (x : List PtrD) (many : Nat) : JU :=
 if (many : Int) = t.ah then ⟨st, t, true⟩
 else if (Xy st t (Zn x) many).ok = true then ⟨X8 ((Zn x).drop many) (Xy st t (Zn x) many).st, (Xy st t (Zn x) many).t, true⟩
 else ⟨(Xy st t (Zn x) many).st, t, false⟩
structure SQ where
  a0 : Option Addr
  c0 : Nat
  a1 : Option Addr
  c1 : Nat
  a2 : Option Addr
  c2 : Nat
  a4 : Option Addr
  c4 : Nat
  a6 : Option Addr
  c6 : Nat
  d : Za
abbrev SQ.l (q : SQ) : List Value := [.slice q.a0 q.d.ac.length q.c0, .slice q.a1 q.d.aa.ag.length q.c1, .slice q.a2 q.d.aa.am.length q.c2, .int .i64 q.d.ar, .slice q.a4 q.d.ai.length q.c4, .int .i64 q.d.ax, .slice q.a6 q.d.al.length q.c6, .bool q.d.az]
abbrev SQ.u (q : SQ) : Value := .agg #[.slice q.a0 q.d.ac.length q.c0, .slice q.a1 q.d.aa.ag.length q.c1, .slice q.a2 q.d.aa.am.length q.c2, .int .i64 q.d.ar, .slice q.a4 q.d.ai.length q.c4, .int .i64 q.d.ax, .slice q.a6 q.d.al.length q.c6, .bool q.d.az]
abbrev fL (q : SQ) (t : Zd) (b : Bool) : List Value := [.slice q.a0 q.d.ac.length q.c0, .slice q.a1 q.d.aa.ag.length q.c1, .slice q.a2 q.d.aa.am.length q.c2, .int .i64 q.d.ar, .slice q.a4 q.d.ai.length q.c4, .int .i64 q.d.ax, .slice q.a6 q.d.al.length q.c6, .bool q.d.az, .int .i64 t.af.aB, .int .i64 t.af.aj, .int .i64 t.af.av, .int .i64 t.af.aC, .int .i64 t.af.aq, .int .i64 t.aw, .int .i64 t.ah, .bool b]
abbrev fV (q : SQ) (t : Zd) (b : Bool) : Value := .agg #[.slice q.a0 q.d.ac.length q.c0, .slice q.a1 q.d.aa.ag.length q.c1, .slice q.a2 q.d.aa.am.length q.c2, .int .i64 q.d.ar, .slice q.a4 q.d.ai.length q.c4, .int .i64 q.d.ax, .slice q.a6 q.d.al.length q.c6, .bool q.d.az, .int .i64 t.af.aB, .int .i64 t.af.aj, .int .i64 t.af.av, .int .i64 t.af.aC, .int .i64 t.af.aq, .int .i64 t.aw, .int .i64 t.ah, .bool b]
def SQ.v (q : SQ) : Value := .agg #[.slice q.a0 q.d.ac.length q.c0, .slice q.a1 q.d.aa.ag.length q.c1, .slice q.a2 q.d.aa.am.length q.c2, .int .i64 q.d.ar, .slice q.a4 q.d.ai.length q.c4, .int .i64 q.d.ax, .slice q.a6 q.d.al.length q.c6, .bool q.d.az]
def SQ.rows (q : SQ) : List Asr := [Zg Zt 1 9 (.slice q.a0 q.d.ac.length q.c0) q.d.ac, Zg ZH 1 3 (.slice q.a1 q.d.aa.ag.length q.c1) q.d.aa.ag, Zg ZH 1 3 (.slice q.a2 q.d.aa.am.length q.c2) q.d.aa.am, Zg PtrD.cells 5 40 (.slice q.a4 q.d.ai.length q.c4) q.d.ai, Zg PtrD.cells 5 40 (.slice q.a6 q.d.al.length q.c6) q.d.al]
def SQ.asr (q : SQ) : Asr := sepA q.rows
theorem St.sqOut {W w : World} {q : SQ} {F : List Asr} (h : St W (q.asr :: F) w) : St W (q.rows ++ F) w := St.join.2 h
theorem St.sqIn {W w : World} {q : SQ} {F : List Asr} (h : St W (q.rows ++ F) w) : St W (q.asr :: F) w := St.join.1 h
theorem St.sqRd {W w : World} {s : List Asr} (h : St W s w) (i : Nat) {q : SQ} (hi : s[i]? = some q.asr) : Rd Zt 1 w q.a0 q.d.ac.length q.d.ac := St.rdOf (h.pick i hi).sqOut Zi 0 rfl
theorem St.sqReads {W w : World} {s : List Asr} (h : St W s w) (i : Nat) {q : SQ} (hi : s[i]? = some q.asr) : Za.Reads w q.v q.d := Za.reads_of (h.pick i hi).sqOut q.d q.a0 q.c0 q.a1 q.c1 q.a2 q.c2 q.a4 q.c4 q.a6 q.c6 0 1 2 3 4 rfl rfl rfl rfl rfl
theorem ZbQ (w0 w : World) (q : SQ) (text : ByteArray) (level : Int) (F : List Asr) (hok : q.d.ok = true) (hsz : inB (text.size : Int) 1 128 = true) (hlv : inB level 0 2 = true) (hS : St w0 (q.asr :: F) w) :
  Calls prog 172 #[.agg #[.slice q.a0 q.d.ac.length q.c0, .slice q.a1 q.d.aa.ag.length q.c1, .slice q.a2 q.d.aa.am.length q.c2, .int .i64 q.d.ar, .slice q.a4 q.d.ai.length q.c4, .int .i64 q.d.ax, .slice q.a6 q.d.al.length q.c6, .bool q.d.az], .string text, .int .i64 level] w fun e w' => ∃ (q' : SQ) (r : ZeG), r = Yu q.d text level ∧ q' = { q with d := r.st } ∧ e = .returned (.tuple #[.agg #[.slice q'.a0 q'.d.ac.length q'.c0, .slice q'.a1 q'.d.aa.ag.length q'.c1, .slice q'.a2 q'.d.aa.am.length q'.c2, .int .i64 q'.d.ar, .slice q'.a4 q'.d.ai.length q'.c4, .int .i64 q'.d.ax, .slice q'.a6 q'.d.al.length q'.c6, .bool q'.d.az], .agg #[.int .i64 r.p.aB, .int .i64 r.p.aj, .int .i64 r.p.av, .int .i64 r.p.aC, .int .i64 r.p.aq], .bool r.ok]) ∧ St w0 (q'.asr :: F) w' := by
 have hOK := Za.ok_spec hok;have hSP := Zq.ok_spec hOK.space;have hs2 := Zu hsz;have hWS := Zox (level := level) hok hsz;refine (Zhn w0 w q.a0 q.c0 q.a1 q.c1 q.a2 q.c2 q.a4 q.c4 q.a6 q.c6 q.d text level F hS.sqOut hOK.rows hSP.refs hSP.last (by omega) hSP.all).mono ?_;rintro e w' (⟨hws, rfl, hs1⟩ | ⟨i, hi6, hws, ⟨hpf, rfl, hs1⟩ | ⟨hpt, rfl, hs1⟩⟩)
 ·exact ⟨q, _, rfl, by rw [UI (hWS.1 hws)] <;> rfl, by rw [UI (hWS.1 hws)]; rfl, St.sqIn hs1⟩
 ·have hwa := hWS.2 i hws
  obtain ⟨_, _, _, hpk, _⟩ := Zma hok hsz hlv hi6 hwa;rw [hpk] at hpf; cases hpf
 ·have hwa := hWS.2 i hws
  have e0 : (q.d.ac.set i text).length = q.d.ac.length := length_set;have e1 : (q.d.aa.ag.set i (q.d.aa.ag.getD i 0 + 1)).length = q.d.aa.ag.length := length_set;have e2 : (q.d.aa.am.set i q.d.ar).length = q.d.aa.am.length := length_set;refine ⟨⟨q.a0, q.c0, q.a1, q.c1, q.a2, q.c2, q.a4, q.c4, q.a6, q.c6, q.d.putAt i (q.d.ac.set i text)⟩, _, rfl, by rw [JV hi6 hwa] <;> rfl, ?_, ?_⟩
  ·rw [JV hi6 hwa]; dsimp only [Za.putAt]; rw [e0, e1, e2, ZeU hpt]
  ·refine St.sqIn ?_
   show St w0 ([Zg Zt 1 _ (.slice q.a0 (q.d.ac.set i text).length q.c0) (q.d.ac.set i text), Zg ZH 1 _ (.slice q.a1 (q.d.aa.ag.set i (q.d.aa.ag.getD i 0 + 1)).length q.c1) (q.d.aa.ag.set i (q.d.aa.ag.getD i 0 + 1)), Zg ZH 1 _ (.slice q.a2 (q.d.aa.am.set i q.d.ar).length q.c2) (q.d.aa.am.set i q.d.ar), _, _] ++ F) w';rw [e0, e1, e2]; exact hs1
theorem Zcn {l : List PtrD} (h : l.length ≤ 4) : (fanB l).size ≤ 4398046511108 := by
 have := Zds (l.map ZV) ZlT (Znp l);rw [length_map] at this;have e : ZlT.size = 1 := rfl;rw [e] at this;have h2 : l.length * (1 + 1099511627776) ≤ 4 * (1 + 1099511627776) := Nat.mul_le_mul_right _ h;unfold fanB; omega
theorem Jq {xs : List PtrD} {i : Nat} (hi : i < xs.length) : xs.take (i + 1) = xs.take i ++ [xs.getD i PtrD.zero] := by
 rw [List.take_succ_eq_append_getElem hi, getD_eq_getElem?_getD, List.getElem?_eq_getElem hi]; rfl
theorem Zed {xs : List PtrD} {i : Nat} (hi : i < xs.length) (h0 : i = 0) : fanB (xs.take i) ++ ZV (xs.getD i PtrD.zero) = fanB (xs.take (i + 1)) := by
 subst h0;rw [Jq hi];unfold fanB;rw [List.take_zero, nil_append, List.map_nil, map_cons, List.map_nil, Zkl, Zkm];exact ByteArray.ext (by simp)
theorem Zfv {xs : List PtrD} {i : Nat} (hi : i < xs.length) (h0 : 0 < i) : (fanB (xs.take i) ++ (⟨#[44]⟩ : ByteArray)) ++ ZV (xs.getD i PtrD.zero) = fanB (xs.take (i + 1)) := by
 rw [Jq hi];unfold fanB;obtain ⟨a, r, e⟩ : ∃ a r, xs.take i = a :: r := by
  cases h : xs.take i with
  | nil => have := congrArg length h; rw [length_take, length_nil] at this; omega
  | cons a r => exact ⟨a, r, rfl⟩
 rw [e, List.map_append, map_cons, map_cons, List.map_nil, Zix]; rfl
theorem UL {xs : List PtrD} {i : Nat} (hi : i < xs.length) (f : PtrD → Bool) : (xs.take (i + 1)).any f = ((xs.take i).any f || f (xs.getD i PtrD.zero)) := by
 rw [Jq hi, List.any_append, List.any_cons, List.any_nil, Bool.or_false]
theorem ZnF {xs : List PtrD} : (xs.any fun p => !p.hole) = !(xs.all fun p => p.hole) := by
 induction xs with
 | nil => rfl
 | cons p r ih => rw [List.any_cons, List.all_cons, ih, Bool.not_and]
theorem Zfw {xs : List PtrD} {i : Nat} (hi : i < xs.length) (f : PtrD → Bool) : (xs.take (i + 1)).all f = ((xs.take i).all f && f (xs.getD i PtrD.zero)) := by
 rw [Jq hi, List.all_append, List.all_cons, List.all_nil, Bool.and_true]
theorem Zmr {xs : List PtrD} {i : Nat} {f : PtrD → Bool} (h : (xs.take i).all f = false) : xs.all f = false := by
 rw [← List.take_append_drop i xs, List.all_append, h, Bool.false_and]
theorem ZiD (ao : Option Addr) (n cap : Nat) (xs : List PtrD) (w0 : World) (hnl : n ≤ 1048576) (hR : Rd PtrD.cells 5 w0 ao n xs) : Calls prog 283 #[.slice ao n cap] w0 fun e w' => e = .returned (.bool (xs.all fun p => p.hole)) ∧ Below w0.heap.size w0 w' := by
 have hn := hR.len;obtain ⟨g0, o0, r0⟩ := hR.opn; have R0 := Bx.mk r0; clear r0;have E := Bx.mk (St.start w0);refine ent func283 ntmps283 ?_;refine xsr<|xr 1 rfl<|xne<|xsq<|xsr<|xr 1 rfl<|xne<|xbl ?_;intro a J;refine Zs (ι := Nat) (fun i a w => (i ≤ n ∧ (xs.take i).all (fun p => p.hole) = true) ∧ Fr 16 a [(0, .slice ao n cap), (3, .int .i64 (i : Int))] ∧ St w0 ([]) w) (fun i => n - i) 0 ⟨⟨Nat.zero_le _, rfl⟩, J.ls _, E.o⟩ ?_;clear J E; clear a;rintro i a w1 ⟨⟨hi, hal⟩, J, E⟩;replace E := Bx.mk E;revert a;refine xsq<|xsr<|xr 2 rfl<|xy rfl (vn 40 5 rfl)<|xr 1 rfl<|xne<|xcd 7 rfl (fun _ dcc1=>?_) fun _ dcc1=>?_
 refine xct rfl<|xsk<|xet<|xsq<|xbl<|xsr<|xr 2 rfl<|xy rfl (vxr 40 i 5 rfl (R0.out.ao i (by omega)))<|xy rfl (fun a J=>ylr (cs := pL (xs.getD i PtrD.zero)) rfl (J.ev rfl) (R0.out.elem E.o (Zh (xs := xs) (j := i) (d := PtrD.zero) (by omega)))) ?_;refine ycB (Zy (xs.getD i PtrD.zero) _) func100 E ?_;clear E;intro w2 E;refine xr 1 rfl<|xne<|xcs 15 rfl (fun cc2=>?_) fun cc2=>?_;refine xct rfl<|xsr<|xr 1 rfl<|xne<|xre<|xbr<|xtr<|xtr<|xbr<|xtr<|xb1 results283 rfl ?_;have hA : xs.all (fun p => p.hole) = false := Zmr (i := i + 1) (by rw [Zfw (by omega), show (xs.getD i PtrD.zero).hole = false from (by simpa using cc2), Bool.and_false]);exact ⟨by rw [hA], E.o.bel⟩;refine xcf rfl<|xsk<|xeb<|xet<|xrl<|xr 1 rfl<|xy rfl (vad rfl)<|xr 1 rfl<|xne ?_;have hst : (xs.take (i + 1)).all (fun p => p.hole) = true := by rw [Zfw (by omega), hal, show (xs.getD i PtrD.zero).hole = true from (by simpa using cc2)]; rfl
 intro a J;exact ⟨i + 1, ⟨⟨by omega, hst⟩, J.less _ ⟨rfl, rfl, trivial⟩, E.o⟩, (by omega)⟩;refine xcf rfl<|xex<|xtx<|xtx<|xbh<|xet<|xsr<|xr 1 rfl<|xne<|xre<|xb1 results283 rfl ?_;have hA : xs.all (fun p => p.hole) = true := (by rw [List.take_of_length_le (by omega)] at hal; exact hal);exact ⟨by rw [hA], E.o.bel⟩
theorem Zee (ao : Option Addr) (cap : Nat) (xs : List PtrD) (w0 : World) (hR : Rd PtrD.cells 5 w0 ao 4 xs) (hok : ∀ p ∈ xs, p.ok = true) (hall : xs.all (fun p => p.hole) = false) : Calls prog 284 #[.slice ao 4 cap] w0 fun e w' => e = .returned (.tuple #[.string (fanB xs), .bool true]) ∧ Below w0.heap.size w0 w' := by
 have hn := hR.len;obtain ⟨g0, o0, r0⟩ := hR.opn; have R0 := Bx.mk r0; clear r0;have E := Bx.mk (St.start w0);refine ent func284 ntmps284 ?_;refine xsr<|xr 2 rfl<|xne<|xsr<|xr 1 rfl<|xne<|xsr<|xr 1 rfl<|xne<|xsq<|xsr<|xr 1 rfl<|xy rfl (vn 40 5 rfl)<|xr 1 rfl<|xne ?_;intro a J;replace J := J.know (k := 9) (c := false) rfl (by decide);revert a;refine xcf rfl<|xsk<|xet<|xsq<|xsr<|xr 1 rfl<|xne<|xbl ?_;intro a J;refine Zs (ι := Nat) (fun i a w => (i ≤ 4 ∧ (fanB (xs.take i)).size ≤ 4398046511108) ∧ Fr 45 a [(0, .slice ao 4 cap), (4, .string (fanB (xs.take i))), (5, .bool ((xs.take i).any fun p => !p.hole)), (6, .int .i64 (i : Int))] ∧ St w0 ([]) w) (fun i => 4 - i) 0 ⟨⟨Nat.zero_le _, Zcn (by simp)⟩, J.less _ ⟨rfl, rfl, rfl, rfl, trivial⟩, E.o⟩ ?_;clear J E; clear a;rintro i a w1 ⟨⟨hi, hfs⟩, J, E⟩;replace E := Bx.mk E;have hpl := V9 (xs.getD i PtrD.zero);revert a;refine xsq<|xsr<|xr 2 rfl<|xy rfl (vn 40 5 rfl)<|xr 1 rfl<|xne<|xcd 13 rfl (fun _ dcc1=>?_) fun _ dcc1=>?_
 refine xct rfl<|xsk<|xet<|xsq<|xbl<|xsq<|xsr<|xr 2 rfl<|xy rfl (vxr 40 i 5 rfl (R0.out.ao i (by omega)))<|xy rfl (fun a J=>ylr (cs := pL (xs.getD i PtrD.zero)) rfl (J.ev rfl) (R0.out.elem E.o (Zh (xs := xs) (j := i) (d := PtrD.zero) (by omega)))) ?_;refine ycB (ZN (xs.getD i PtrD.zero) _) func99 E ?_;clear E;intro w2 E;refine xr 1 rfl<|xne<|xcs 21 rfl (fun cc2=>?_) fun cc2=>?_;have h9 := hok _ (YD (xs := xs) (i := i) (by omega)); rw [h9] at cc2; cases cc2;refine xcf rfl<|xsk<|xet<|xsr<|xr 2 rfl<|xcs 23 rfl (fun cc3=>?_) fun cc3=>?_;refine xr 8 rfl<|xne<|xsq<|xsr<|xr 2 rfl<|xne<|xcd 32 rfl (fun _ dcc4=>?_) fun _ dcc4=>?_;refine xct rfl<|xrl<|xr 1 rfl<|xy rfl (fun a J=>ZB rfl (J.ev rfl) (J.ev rfl) (by (try simp only [Xc, Zk]); omega))<|xr 1 rfl<|xne<|xrl<|xr 3 rfl<|xy rfl (vxr 40 i 5 rfl (R0.out.ao i (by omega)))<|xy rfl (fun a J=>ylr (cs := pL (xs.getD i PtrD.zero)) rfl (J.ev rfl) (R0.out.elem E.o (Zh (xs := xs) (j := i) (d := PtrD.zero) (by omega)))) ?_;refine ycB (Qk (xs.getD i PtrD.zero) _) func155 E ?_;clear E;intro w3 E;refine xy rfl (fun a J=>ZB rfl (J.ev rfl) (J.ev rfl) (by (try simp only [Xc, Zk]); omega))<|xr 1 rfl<|xni<|xeb<|xet<|xrl<|xr 1 rfl<|xy rfl (vad rfl)<|xr 1 rfl<|xne ?_;have hfan := Zfv (xs := xs) (i := i) (by omega) (by omega);have hany := UL (xs := xs) (i := i) (by omega) (fun p => !p.hole);rw [cc3] at hany; simp only [Bool.true_or] at hany;intro a J;exact ⟨i + 1, ⟨⟨by omega, Zcn (by rw [length_take]; omega)⟩, J.less _ ⟨rfl, (congrArg (fun z => some (Value.string z)) hfan), (congrArg (fun z => some (Value.bool z)) hany.symm), rfl, trivial⟩, E.o⟩, (by omega)⟩;refine xcf rfl<|xsk<|xet<|xrl<|xr 3 rfl<|xy rfl (vxr 40 i 5 rfl (R0.out.ao i (by omega)))<|xy rfl (fun a J=>ylr (cs := pL (xs.getD i PtrD.zero)) rfl (J.ev rfl) (R0.out.elem E.o (Zh (xs := xs) (j := i) (d := PtrD.zero) (by omega)))) ?_;refine ycB (Qk (xs.getD i PtrD.zero) _) func155 E ?_;clear E;intro w4 E;refine xy rfl (fun a J=>ZB rfl (J.ev rfl) (J.ev rfl) (by (try simp only [Xc, Zk]); omega))<|xr 1 rfl<|xni<|xeb<|xet<|xrl<|xr 1 rfl<|xy rfl (vad rfl)<|xr 1 rfl<|xne ?_;have hfan := Zed (xs := xs) (i := i) (by omega) (by omega);have hany := UL (xs := xs) (i := i) (by omega) (fun p => !p.hole);rw [cc3] at hany; simp only [Bool.true_or] at hany;intro a J;exact ⟨i + 1, ⟨⟨by omega, Zcn (by rw [length_take]; omega)⟩, J.less _ ⟨rfl, (congrArg (fun z => some (Value.string z)) hfan), (congrArg (fun z => some (Value.bool z)) hany.symm), rfl, trivial⟩, E.o⟩, (by omega)⟩;refine xr 2 rfl<|xy rfl (vxr 40 i 5 rfl (R0.out.ao i (by omega)))<|xy rfl (fun a J=>ylr (cs := pL (xs.getD i PtrD.zero)) rfl (J.ev rfl) (R0.out.elem E.o (Zh (xs := xs) (j := i) (d := PtrD.zero) (by omega)))) ?_;refine Zb3 (Zy (xs.getD i PtrD.zero) _) func100 E ?_;clear E;intro w5 E;refine xr 3 rfl<|xne<|xsq<|xsr<|xr 2 rfl<|xne<|xcd 32 rfl (fun _ dcc5=>?_) fun _ dcc5=>?_;refine xct rfl<|xrl<|xr 1 rfl<|xy rfl (fun a J=>ZB rfl (J.ev rfl) (J.ev rfl) (by (try simp only [Xc, Zk]); omega))<|xr 1 rfl<|xne<|xrl<|xr 3 rfl<|xy rfl (vxr 40 i 5 rfl (R0.out.ao i (by omega)))<|xy rfl (fun a J=>ylr (cs := pL (xs.getD i PtrD.zero)) rfl (J.ev rfl) (R0.out.elem E.o (Zh (xs := xs) (j := i) (d := PtrD.zero) (by omega)))) ?_;refine ycB (Qk (xs.getD i PtrD.zero) _) func155 E ?_;clear E;intro w6 E;refine xy rfl (fun a J=>ZB rfl (J.ev rfl) (J.ev rfl) (by (try simp only [Xc, Zk]); omega))<|xr 1 rfl<|xni<|xeb<|xet<|xrl<|xr 1 rfl<|xy rfl (vad rfl)<|xr 1 rfl<|xne ?_;have hfan := Zfv (xs := xs) (i := i) (by omega) (by omega);have hany := UL (xs := xs) (i := i) (by omega) (fun p => !p.hole);rw [cc3] at hany; simp only [Bool.false_or] at hany;intro a J;exact ⟨i + 1, ⟨⟨by omega, Zcn (by rw [length_take]; omega)⟩, J.less _ ⟨rfl, (congrArg (fun z => some (Value.string z)) hfan), (congrArg (fun z => some (Value.bool z)) hany.symm), rfl, trivial⟩, E.o⟩, (by omega)⟩;refine xcf rfl<|xsk<|xet<|xrl<|xr 3 rfl<|xy rfl (vxr 40 i 5 rfl (R0.out.ao i (by omega)))<|xy rfl (fun a J=>ylr (cs := pL (xs.getD i PtrD.zero)) rfl (J.ev rfl) (R0.out.elem E.o (Zh (xs := xs) (j := i) (d := PtrD.zero) (by omega)))) ?_;refine ycB (Qk (xs.getD i PtrD.zero) _) func155 E ?_;clear E;intro w7 E;refine xy rfl (fun a J=>ZB rfl (J.ev rfl) (J.ev rfl) (by (try simp only [Xc, Zk]); omega))<|xr 1 rfl<|xni<|xeb<|xet<|xrl<|xr 1 rfl<|xy rfl (vad rfl)<|xr 1 rfl<|xne ?_;have hfan := Zed (xs := xs) (i := i) (by omega) (by omega);have hany := UL (xs := xs) (i := i) (by omega) (fun p => !p.hole);rw [cc3] at hany; simp only [Bool.false_or] at hany;intro a J;exact ⟨i + 1, ⟨⟨by omega, Zcn (by rw [length_take]; omega)⟩, J.less _ ⟨rfl, (congrArg (fun z => some (Value.string z)) hfan), (congrArg (fun z => some (Value.bool z)) hany.symm), rfl, trivial⟩, E.o⟩, (by omega)⟩;refine xcf rfl<|xex<|xtx<|xtx<|xbh<|xet<|xsq<|xsr<|xr 2 rfl<|xne<|xcs 43 rfl (fun cc6=>?_) fun cc6=>?_;refine xct rfl<|xsr<|xr 2 rfl<|xne<|xre<|xtr<|xb2 results284 rfl rfl ?_;have h9 : (xs.take i).any (fun p => !p.hole) = false := by simpa using cc6
 rw [List.take_of_length_le (by omega), ZnF, hall] at h9; cases h9;refine xcf rfl<|xsk<|xet<|xsr<|xr 3 rfl<|xne<|xre<|xb2 results284 rfl rfl ?_;have hx9 : xs.take i = xs := List.take_of_length_le (by omega);exact ⟨by rw [hx9], E.o.bel⟩
theorem ZhB (a0 : Option Addr) (c0 : Nat) (a1 : Option Addr) (c1 : Nat) (a2 : Option Addr) (c2 : Nat) (a4 : Option Addr) (c4 : Nat) (a6 : Option Addr) (c6 : Nat) (st : Za) (t : Zd) (hkid : t.aw = 2 → t.af.hole = false → kidsS st t.af 2 ≠ none) (w0 : World) (hR : Rd Zt 1 w0 a0 st.ac.length st.ac) (hrow : Xg st) : Calls prog 229 #[sV a0 c0 a1 c1 a2 c2 a4 c4 a6 c6 st, tV t] w0 fun e w' => ∃ ao cp, e = .returned (.slice ao (ZD st t).length cp) ∧ St w0 [Zg PtrD.cells 5 40 (.slice ao (ZD st t).length cp) (ZD st t)] w' := by
 have HR := Bx.mk hR; clear hR;have E := Bx.mk (St.start w0);refine ent func229 ntmps229 ?_;refine xsr ?_;refine ybx E ?_;clear E;intro w1 b1 E;refine ybx E ?_;clear E;intro w2 b2 E;refine xr 1 rfl<|xne<|xsr ?_;refine yem 40 5 E ?_;clear E;intro w3 b3 E;refine xr 1 rfl<|xne<|xsq<|xsr<|Xf 5 rfl<|Xl 0 E rfl rfl<|xr 2 rfl<|xce 13 rfl (fun cc1 dcc1=>?_) fun cc1 dcc1=>?_;refine xr 4 rfl<|xne<|xct rfl<|xsr<|xr 2 rfl<|xne<|xre<|xtr<|xb1 results229 rfl ?_;have hI : ZD st t = [] := if_pos (by first | exact .inl (by omega) | exact .inr (by simpa using cc1));exact ⟨(some ⟨b3, 0, none⟩), 0, by rw [hI]; rfl, by rw [hI]; exact ((((E.o).nilRow PtrD.cells 5 40 (some ⟨b3, 0, none⟩)).erase 2).erase 1)⟩;refine Xf 0 rfl<|Xw 0 5 E rfl rfl ?_;refine Zb3 (Zy t.af _) func100 E ?_;clear E;intro w4 E;refine xr 1 rfl<|xne<|xcs 17 rfl (fun cc2=>?_) fun cc2=>?_;refine xct rfl<|xsr<|xr 2 rfl<|xne<|xre<|xtr<|xb1 results229 rfl ?_;have hI : ZD st t = [] := if_pos (by first | exact .inl (by omega) | exact .inr (by simpa using cc2));exact ⟨(some ⟨b3, 0, none⟩), 0, by rw [hI]; rfl, by rw [hI]; exact ((((E.o).nilRow PtrD.cells 5 40 (some ⟨b3, 0, none⟩)).erase 2).erase 1)⟩;have hnh := cc2;refine xcf rfl<|xsk<|xet<|xsr<|xr 1 rfl<|Xf 0 rfl<|Xw 0 5 E rfl rfl ?_;refine ybs PtrD.cells 40 5 [t.af] E ?_;clear E;intro b4 w5 E;replace E := Bx.mk (E.o.nilRow PtrD.cells 5 40 (some ⟨b3, 0, none⟩));refine yap Xe PtrD.cells_len E 0 (St.rdN E.o PtrD.cells_len 1 rfl) (Zx _) ?_;clear E;intro ao6 cp7 w6 E;refine xr 1 rfl<|xne<|xsq<|xsr<|Xf 5 rfl<|Xl 2 E rfl rfl<|xr 1 rfl<|xne<|xce 26 rfl (fun _ dcc3=>?_) fun _ dcc3=>?_;refine xct rfl<|xsr<|Xw 3 8 E rfl rfl<|Xf 0 rfl<|Xw 2 5 E rfl rfl ?_;refine yc (Uc a0 c0 a1 c1 a2 c2 a4 c4 a6 c6 st t.af 2 _ (HR.out.below E.o.bel) hrow) func169 ?_;rintro _ w7 (⟨l8, hk8, ao8, cp8, rfl, hs1⟩ | ⟨hk8, ao8, nn8, cp8, rfl, hb⟩);have hll8 := XW hk8;refine ⟨_, rfl, ?_⟩; replace E := E.ad hs1;clear hs1;refine xr 5 rfl<|xne<|xsr<|xr 1 rfl<|xne<|xbl ?_;have hz9 : ([] : List PtrD).length + ([t.af]).length = (([]) ++ ([t.af])).length := by simp only [length_append, length_nil, length_cons]
 intro a J;rw [hz9] at E J;replace E:=E.pks [1];refine Zs (ι := Nat) (fun i a w => ∃ (ao : Option Addr) (cp : Nat) (os : List PtrD), (i ≤ l8.length ∧ os = [t.af] ++ (l8.take i).filter (fun p => !p.hole)) ∧ Fr 54 a [(2, .pointer (some ⟨b1, 0, none⟩)), (3, .pointer (some ⟨b2, 0, none⟩)), (6, .slice ao8 l8.length cp8), (5, .slice ao os.length cp), (8, .int .i64 (i : Int))] ∧ St w0 ([Zg PtrD.cells 5 40 (.slice ao os.length cp) os, Zg PtrD.cells 5 40 (.slice ao8 l8.length cp8) l8, Zg PtrD.cells 5 40 (.slice (some ⟨b4, 0, none⟩) 1 1) ([t.af]), boxA b2 7 42 (tV t), boxA b1 8 39 (sV a0 c0 a1 c1 a2 c2 a4 c4 a6 c6 st)]) w) (fun i => l8.length - i) 0 ⟨_, _, _, ⟨Nat.zero_le _, by rw [List.take_zero]; rfl⟩, J.less _ ⟨rfl, rfl, rfl, rfl, rfl, trivial⟩, E.o⟩ ?_;clear J E; clear a;rintro i a w8 ⟨ao, cp, os, ⟨hi, hos⟩, J, E⟩;replace E := Bx.mk E;have hol : os.length ≤ 5 := by rw [hos, length_append]; have h9 := List.length_filter_le (fun p : PtrD => !p.hole) (l8.take i); rw [length_take] at h9; simp only [length_singleton]; omega
 revert a;refine xsq<|xsr<|xr 2 rfl<|xy rfl (vn 40 5 rfl)<|xr 1 rfl<|xne<|xcd 37 rfl (fun _ dcc4=>?_) fun _ dcc4=>?_
 refine xct rfl<|xsk<|xet<|xsq<|xbl<|xsq ?_;replace E:=E.pks [4,4,4,4,4];obtain ⟨g10, rfl, _, _, _, _⟩ := E.o.rowOpen 1 rfl (by omega);refine xrl<|xr 2 rfl<|xy rfl (vx 40 i 5 rfl)<|xy rfl (fun a J=>ylr (cs := pL (l8.getD i PtrD.zero)) rfl (J.ev rfl) (E.o.elem PtrD.cells_len 1 rfl (Zh (xs := l8) (j := i) (d := PtrD.zero) (by omega)))) ?_;refine ycB (Zy (l8.getD i PtrD.zero) _) func100 E ?_;clear E;intro w9 E;refine xr 1 rfl<|xne<|xcs 45 rfl (fun cc5=>?_) fun cc5=>?_;refine xct rfl<|xrl<|xr 3 rfl<|xy rfl (vx 40 i 5 rfl)<|xy rfl (fun a J=>ylr (cs := pL (l8.getD i PtrD.zero)) rfl (J.ev rfl) (E.o.elem PtrD.cells_len 1 rfl (Zh (xs := l8) (j := i) (d := PtrD.zero) (by omega)))) ?_;refine ybs PtrD.cells 40 5 [(l8.getD i PtrD.zero)] E ?_;clear E;intro b11 w10 E;refine yap Xe PtrD.cells_len E 1 (St.rdN E.o PtrD.cells_len 0 rfl) (Zx _) ?_;clear E;intro ao12 cp13 w11 E;refine xr 1 rfl<|xni<|xeb<|xet<|xrl<|xr 1 rfl<|xy rfl (vad rfl)<|xr 1 rfl<|xne ?_;have hz14 : os.length + ([(l8.getD i PtrD.zero)]).length = (os ++ ([(l8.getD i PtrD.zero)])).length := by simp only [length_append, length_nil, length_cons]
 intro a J;rw [hz14] at E J;have hh9 : (l8.getD i PtrD.zero).hole = false := by simpa using cc5
 have hst : (l8.take (i + 1)).filter (fun p => !p.hole) = (l8.take i).filter (fun p => !p.hole) ++ [(l8.getD i PtrD.zero)] := by rw [Jq (by omega), filter_append, List.filter_cons, List.filter_nil, hh9]; simp
 replace E:=E.pks [5,5,5,5,5];exact ⟨i + 1, ⟨_, _, _, ⟨by omega, by rw [hst, hos]; simp⟩, J.less _ ⟨rfl, rfl, rfl, rfl, rfl, trivial⟩, (E.o.erase 5)⟩, (by omega)⟩;refine xcf rfl<|xsk<|xeb<|xet<|xrl<|xr 1 rfl<|xy rfl (vad rfl)<|xr 1 rfl<|xne ?_;have hh9 : (l8.getD i PtrD.zero).hole = true := by simpa using cc5
 have hst : (l8.take (i + 1)).filter (fun p => !p.hole) = (l8.take i).filter (fun p => !p.hole) := by rw [Jq (by omega), filter_append, List.filter_cons, List.filter_nil, hh9]; simp
 intro a J;exact ⟨i + 1, ⟨_, _, _, ⟨by omega, by rw [hst, hos]⟩, J.less _ ⟨rfl, rfl, rfl, rfl, rfl, trivial⟩, E.o⟩, (by omega)⟩;refine xcf rfl<|xex<|xtx<|xtx<|xbh<|xet<|xsr<|xr 2 rfl<|xne<|xre<|xb1 results229 rfl ?_;have hI : ZD st t = os := by unfold ZD; rw [if_neg (fun h => h.elim (fun h => by omega) (fun h => by rw [hnh] at h; cases h)), if_pos (by omega), hk8, hos, List.take_of_length_le (by omega)]; rfl
 exact ⟨_, _, by rw [hI] <;> rfl, by rw [hI]; exact (E.o.erS [4,3,2,1])⟩;exact absurd hk8 (hkid (by omega) (by simpa using hnh));refine xcf rfl<|xsk<|xet<|xsr<|xr 2 rfl<|xne<|xre<|xb1 results229 rfl ?_;have hI : ZD st t = [t.af] := by unfold ZD; rw [if_neg (fun h => h.elim (fun h => by omega) (fun h => by rw [hnh] at h; cases h)), if_neg (by omega)]
 have hz9 : ([] : List PtrD).length + ([t.af]).length = [t.af].length := by simp only [length_append, length_nil, length_cons]
 exact ⟨_, _, by rw [hI, ← hz9] <;> rfl, by rw [hI, ← hz9]; exact (E.o.erS [3,2,1])⟩
theorem Zkt (a0 : Option Addr) (c0 : Nat) (a1 : Option Addr) (c1 : Nat) (a2 : Option Addr) (c2 : Nat) (a4 : Option Addr) (c4 : Nat) (a6 : Option Addr) (c6 : Nat) (st : Za) (t : Zd) (dp lv : Nat) (w0 : World) (hR : Rd Zt 1 w0 a0 st.ac.length st.ac) (hrow : Xg st) : Calls prog 230 #[sV a0 c0 a1 c1 a2 c2 a4 c4 a6 c6 st, tV t, .int .i64 (dp : Int), .int .i64 (lv : Int)] w0 fun e w' => ∃ ao cp, e = .returned (.slice ao (Z9 st t dp lv).length cp) ∧ St w0 [Zg PtrD.cells 5 40 (.slice ao (Z9 st t dp lv).length cp) (Z9 st t dp lv)] w' := by
 have HR := Bx.mk hR; clear hR;have E := Bx.mk (St.start w0);refine ent func230 ntmps230 ?_;refine xsr ?_;refine ybx E ?_;clear E;intro w1 b1 E;refine ybx E ?_;clear E;intro w2 b2 E;refine xr 1 rfl<|xne<|xsq<|xsr<|Xf 5 rfl<|Xl 0 E rfl rfl<|xr 2 rfl<|xne<|xcn 14 rfl (fun _ dcc1=>?_) fun _ dcc1=>?_;refine xct rfl<|xsr ?_;refine yc (Ub 4 (by omega) _) func225 ?_;rintro _ w3 ⟨ao3, cp3, rfl, hs⟩;refine ⟨_, rfl, ?_⟩;replace E := E.ad hs;clear hs;refine xr 1 rfl<|xne<|xre<|xtr<|xb1 results230 rfl ?_;have hO : Z9 st t dp lv = replicate 4 PtrD.zero := by unfold Z9; rw [if_neg (by omega)]; rfl
 exact ⟨_, _, by rw [hO] <;> rfl, by rw [hO]; exact (E.o.erS [2,1])⟩;refine xcf rfl<|xsk<|xet<|xsq<|xsr<|xr 3 rfl<|xne<|xce 18 rfl (fun _ dcc2=>?_) fun _ dcc2=>?_;refine xct rfl<|xsr<|Xf 0 rfl<|Xw 0 5 E rfl rfl ?_;refine ybs PtrD.cells 40 5 [t.af] E ?_;clear E;intro b4 w4 E;refine xr 1 rfl<|xne<|xre<|xtr<|xb1 results230 rfl ?_;have hO : Z9 st t dp lv = [t.af] := by unfold Z9; rw [if_pos (by omega), if_pos (by omega)]
 exact ⟨_, _, by rw [hO] <;> rfl, by rw [hO]; exact (E.o.erS [2,1])⟩;refine xcf rfl<|xsk<|xet<|xsr<|Xw 1 8 E rfl rfl<|Xf 0 rfl<|Xw 0 5 E rfl rfl<|xr 1 rfl ?_;refine yc (Uc a0 c0 a1 c1 a2 c2 a4 c4 a6 c6 st t.af (dp : Int) _ (HR.out.below E.o.bel) hrow) func169 ?_;rintro _ w5 (⟨l5, hk5, ao5, cp5, rfl, hs1⟩ | ⟨hk5, ao5, nn5, cp5, rfl, hb⟩);have hll5 := XW hk5;refine ⟨_, rfl, ?_⟩; replace E := E.ad hs1;clear hs1;refine xr 5 rfl<|xne<|xsq<|xsr<|xr 2 rfl<|xne<|xcf rfl<|xsk<|xet<|xsr<|xr 2 rfl<|xne<|xre<|xb1 results230 rfl ?_;have hO : Z9 st t dp lv = l5 := by unfold Z9; rw [if_pos (by omega), if_neg (by omega), hk5]; rfl
 exact ⟨_, _, by rw [hO] <;> rfl, by rw [hO]; exact (E.o.erS [2,1])⟩;refine ⟨_, rfl, ?_⟩; replace E := Bx.mk (E.o.later hb);clear hb;refine xr 5 rfl<|xne<|xsq<|xsr<|xr 2 rfl<|xne<|xct rfl<|xsr ?_;refine yc (Ub 4 (by omega) _) func225 ?_;rintro _ w6 ⟨ao6, cp6, rfl, hs⟩;refine ⟨_, rfl, ?_⟩;replace E := E.ad hs;clear hs;refine xr 1 rfl<|xne<|xre<|xtr<|xb1 results230 rfl ?_;have hO : Z9 st t dp lv = replicate 4 PtrD.zero := by unfold Z9; rw [if_pos (by omega), if_neg (by omega), hk5]; rfl
 exact ⟨_, _, by rw [hO] <;> rfl, by rw [hO]; exact (E.o.erS [2,1])⟩
theorem Zms {w : World} {g n k : Nat} {L c : List PtrD} (h : Rd PtrD.cells 5 w (some ⟨g, 0, none⟩) n L) (hk : k ≤ n) (hc : (L.drop k).take 4 = c) (hcl : c.length = 4) : Rd PtrD.cells 5 w (some ⟨g, 0 + k * 5, none⟩) 4 c := by
 have h2 := h.dropP hk;subst hc;rw [length_take] at hcl;exact h2.take (by omega)
theorem Zku (w0 w : World) (d0 : Option Addr) (f0 : Nat) (d1 : Option Addr) (f1 : Nat) (d2 : Option Addr) (f2 : Nat) (d4 : Option Addr) (f4 : Nat) (d6 : Option Addr) (f6 : Nat) (st : Za) (gL cpL kL cpS : Nat) (L c : List PtrD) (lv : Int) (p : PtrD) (F : List Asr) (hkL : kL ≤ L.length) (hc : (L.drop kL).take 4 = c) (hcl : c.length = 4) (hco : ∀ x ∈ c, x.ok = true) (hpo : p.ok = true) (hlv : inB lv 0 2 = true) (hq : st.ok = true) (hS : St w0 (Zg Zt 1 9 (.slice d0 st.ac.length f0) st.ac :: Zg ZH 1 3 (.slice d1 st.aa.ag.length f1) st.aa.ag :: Zg ZH 1 3 (.slice d2 st.aa.am.length f2) st.aa.am :: Zg PtrD.cells 5 40 (.slice d4 st.ai.length f4) st.ai :: Zg PtrD.cells 5 40 (.slice d6 st.al.length f6) st.al :: Zg PtrD.cells 5 40 (.slice (some ⟨gL, 0, none⟩) L.length cpL) L :: F) w) : Calls prog 231 #[sV d0 f0 d1 f1 d2 f2 d4 f4 d6 f6 st, .slice (some ⟨gL, 0 + kL * 5, none⟩) 4 cpS, .int .i64 lv, pV p] w fun e w' => ∃ (q' : SQ) (r : ZeG), r = Ya st c lv p ∧ q' = ⟨d0, f0, d1, f1, d2, f2, d4, f4, d6, f6, r.st⟩ ∧ e = .returned (.tuple #[q'.u, pV r.p, .bool r.ok]) ∧ St w0 (q'.asr :: Zg PtrD.cells 5 40 (.slice (some ⟨gL, 0, none⟩) L.length cpL) L :: F) w' := by
 have hOK := Za.ok_spec hq; have hl0 := hOK.rows; have hrow := Xa hq; have hfsz := ZbP hcl hco; have hfl := Zcn (l := c) (by omega);have E := Bx.mk hS; clear hS;refine ent func231 ntmps231 ?_;refine xsr ?_;refine ybx E ?_;clear E;intro w1 b1 E;refine ybx E ?_;clear E;intro w2 b2 E;refine yal z8 E ?_;clear E;intro w3 b3 E;refine yal z5 E ?_;clear E;intro w4 b4 E;refine xr 1 rfl<|xne<|xsq<|xsr<|xr 1 rfl ?_;refine ycB (ZiD _ 4 _ c _ (by omega) (Zms (St.rdOf E.o PtrD.cells_len 9 rfl) hkL hc hcl)) func283 E ?_;clear E;intro w5 E;refine xne<|xcs 14 rfl (fun cc1=>?_) fun cc1=>?_;refine xct rfl<|xsr<|Xw 3 8 E rfl rfl<|xy rfl (vb z5 rfl) ?_;refine yst E 1 ?_;clear E;intro w6 E;replace E:=E.nm;refine yst E 0 ?_;clear E;intro w7 E;replace E:=E.nm;refine xr 1 rfl<|xne<|xre<|xtr ?_;intro a J;refine Zv J results231 (J.resBox rfl (E.o.box 1 rfl) (by kernel_rfl)) (J.resBox rfl (E.o.box 0 rfl) (by kernel_rfl)) (J.res rfl) ?_;replace E:=E.pks [9,9,9,9,9,9];exact ⟨⟨d0, f0, d1, f1, d2, f2, d4, f4, d6, f6, st⟩, ⟨st, PtrD.zero, true⟩, (U8 cc1).symm, rfl, rfl, St.sqIn (q := ⟨d0, f0, d1, f1, d2, f2, d4, f4, d6, f6, st⟩) (E.o.erS [9,8,7,6])⟩;have hall := cc1;refine xcf rfl<|xsk<|xet<|xsr<|xr 1 rfl ?_;refine ycB (Zee _ _ c _ (Zms (St.rdOf E.o PtrD.cells_len 9 rfl) hkL hc hcl) hco hall) func284 E ?_;clear E;intro w8 E;refine xr 5 rfl<|xne<|xsq<|xsq ?_;obtain ⟨g5, rfl, _, _, _, _⟩ := E.o.rowOpen 4 rfl (by omega);refine xrl<|Xw 2 5 E rfl rfl ?_;refine ycB (Zy p _) func100 E ?_;clear E;intro w9 E;refine xr 2 rfl<|xcs 25 rfl (fun cc2=>?_) fun cc2=>?_;have hph : p.hole = false := by simpa using cc2
 have hat := Zis hpo hph;refine Xw 2 5 E rfl rfl<|xr 1 rfl ?_;refine Zb3 (Vh p (fanB c) _ (by omega)) func170 E ?_;clear E;intro w10 E;refine xr 2 rfl<|xcs 30 rfl (fun cc3=>?_) fun cc3=>?_;refine Xf 0 rfl<|Xl 3 E rfl rfl<|Xf 0 rfl<|Xl 2 E rfl rfl<|xy rfl (fun a J=>ZY (e := 9) (i := p.aB.toNat) (size := 1) rfl (J.ev rfl) (J.ev rfl) (by kernel_rfl) (by omega) (by omega))<|xy rfl (fun a J=>ylo (v := .string (st.ac.getD p.aB.toNat ByteArray.empty)) rfl (J.ev rfl) (E.o.elem1 Zi 4 rfl (Zh (xs := st.ac) (j := p.aB.toNat) (d := ByteArray.empty) (by omega)) rfl))<|xr 1 rfl<|xy rfl (fun a J=>Yq rfl (J.ev rfl) (J.ev rfl))<|xr 1 rfl<|xne<|xcs 39 rfl (fun cc4=>?_) fun cc4=>?_;refine xct rfl<|xsq ?_;refine hld [1,0] E ?_;clear E;intro w11 E M;refine Hw 0 1 8 E rfl rfl<|Hw 1 0 5 E rfl rfl ?_;refine Zo 2 ?_;refine yos 1 [1,0] M ?_;clear E M;intro w12 E M;refine Zo 3 ?_;refine yos 0 [1,0] M ?_;clear E M;intro w13 E M;refine Hp 4 E rfl ?_;refine hdn ?_;replace E := M; clear M;refine xet<|xre<|xtr ?_;intro a J;refine Zv J results231 (J.resBox rfl (E.o.box 1 rfl) (by kernel_rfl)) (J.resBox rfl (E.o.box 0 rfl) (by kernel_rfl)) (J.res rfl) ?_;have hsm : Xb st c p = true := by unfold Xb; simp only [Yj]; (first | (simp only [cc2, cc3, cc4]; rfl) | simp_all)
 replace E:=E.pks [9,9,9,9,9,9];exact ⟨⟨some ⟨g5, 0, none⟩, f0, d1, f1, d2, f2, d4, f4, d6, f6, st⟩, ⟨st, p, true⟩, (U9 hall hsm).symm, rfl, rfl, St.sqIn (q := ⟨some ⟨g5, 0, none⟩, f0, d1, f1, d2, f2, d4, f4, d6, f6, st⟩) (E.o.erS [9,8,7,6])⟩;refine xcf rfl<|xsk<|xet<|xsr<|Xw 3 8 E rfl rfl<|xr 2 rfl ?_;replace E:=E.pks [8,8,8,8,8];replace E := Bx.mk (St.sqIn (q := ⟨some ⟨g5, 0, none⟩, f0, d1, f1, d2, f2, d4, f4, d6, f6, st⟩) E.o);replace E:=E.pks [0];refine yc (ZbQ w0 _ ⟨some ⟨g5, 0, none⟩, f0, d1, f1, d2, f2, d4, f4, d6, f6, st⟩ (fanB c) lv _ hq hfsz hlv E.o) func172 ?_;rintro _ w14 ⟨q1, r1, hr1, hq1, rfl, hs1⟩;refine ⟨_, rfl, ?_⟩; replace E := Bx.mk hs1;clear hs1;refine xr 3 rfl ?_;refine yst E 2 ?_;clear E;intro w15 E;replace E:=E.nm;refine yst E 1 ?_;clear E;intro w16 E;replace E:=E.nm;refine xr 1 rfl<|xne<|xre ?_;intro a J;refine Zv J results231 (J.resBox rfl (E.o.box 2 rfl) (by kernel_rfl)) (J.resBox rfl (E.o.box 1 rfl) (by kernel_rfl)) (J.res rfl) ?_;have hsm : Xb st c p = false := by unfold Xb; simp only [Yj]; (first | (simp only [cc2, cc3, cc4]; rfl) | simp_all)
 replace E:=E.pks [5,1];exact ⟨q1, r1, (hr1.trans (Za1 hall hsm).symm), hq1, rfl, (E.o.erS [5,4,3,2])⟩;refine xr 9 rfl<|xne<|xcf rfl<|xsk<|xet<|xsr<|Xw 3 8 E rfl rfl<|xr 2 rfl ?_;replace E:=E.pks [8,8,8,8,8];replace E := Bx.mk (St.sqIn (q := ⟨some ⟨g5, 0, none⟩, f0, d1, f1, d2, f2, d4, f4, d6, f6, st⟩) E.o);replace E:=E.pks [0];refine yc (ZbQ w0 _ ⟨some ⟨g5, 0, none⟩, f0, d1, f1, d2, f2, d4, f4, d6, f6, st⟩ (fanB c) lv _ hq hfsz hlv E.o) func172 ?_;rintro _ w17 ⟨q1, r1, hr1, hq1, rfl, hs1⟩;refine ⟨_, rfl, ?_⟩; replace E := Bx.mk hs1;clear hs1;refine xr 3 rfl ?_;refine yst E 2 ?_;clear E;intro w18 E;replace E:=E.nm;refine yst E 1 ?_;clear E;intro w19 E;replace E:=E.nm;refine xr 1 rfl<|xne<|xre ?_;intro a J;refine Zv J results231 (J.resBox rfl (E.o.box 2 rfl) (by kernel_rfl)) (J.resBox rfl (E.o.box 1 rfl) (by kernel_rfl)) (J.res rfl) ?_;have hsm : Xb st c p = false := by unfold Xb; simp only [Yj]; (first | (simp only [cc2, cc3]; rfl) | simp_all)
 replace E:=E.pks [5,1];exact ⟨q1, r1, (hr1.trans (Za1 hall hsm).symm), hq1, rfl, (E.o.erS [5,4,3,2])⟩;refine xr 14 rfl<|xne<|xcf rfl<|xsk<|xet<|xsr<|Xw 3 8 E rfl rfl<|xr 2 rfl ?_;replace E:=E.pks [8,8,8,8,8];replace E := Bx.mk (St.sqIn (q := ⟨some ⟨g5, 0, none⟩, f0, d1, f1, d2, f2, d4, f4, d6, f6, st⟩) E.o);replace E:=E.pks [0];refine yc (ZbQ w0 _ ⟨some ⟨g5, 0, none⟩, f0, d1, f1, d2, f2, d4, f4, d6, f6, st⟩ (fanB c) lv _ hq hfsz hlv E.o) func172 ?_;rintro _ w20 ⟨q1, r1, hr1, hq1, rfl, hs1⟩;refine ⟨_, rfl, ?_⟩; replace E := Bx.mk hs1;clear hs1;refine xr 3 rfl ?_;refine yst E 2 ?_;clear E;intro w21 E;replace E:=E.nm;refine yst E 1 ?_;clear E;intro w22 E;replace E:=E.nm;refine xr 1 rfl<|xne<|xre ?_;intro a J;refine Zv J results231 (J.resBox rfl (E.o.box 2 rfl) (by kernel_rfl)) (J.resBox rfl (E.o.box 1 rfl) (by kernel_rfl)) (J.res rfl) ?_;have hsm : Xb st c p = false := by unfold Xb; simp only [Yj]; (first | (simp only [cc2]; rfl) | simp_all)
 replace E:=E.pks [5,1];exact ⟨q1, r1, (hr1.trans (Za1 hall hsm).symm), hq1, rfl, (E.o.erS [5,4,3,2])⟩
theorem Zmt (w0 w : World) (q : SQ) (gL cpL kL cpS : Nat) (L c : List PtrD) (lv : Int) (p : PtrD) (F : List Asr) (hkL : kL ≤ L.length) (hc : (L.drop kL).take 4 = c) (hcl : c.length = 4) (hco : ∀ x ∈ c, x.ok = true) (hpo : p.ok = true) (hlv : inB lv 0 2 = true) (hq : q.d.ok = true) (hS : St w0 (q.asr :: Zg PtrD.cells 5 40 (.slice (some ⟨gL, 0, none⟩) L.length cpL) L :: F) w) : Calls prog 231 #[.agg #[.slice q.a0 q.d.ac.length q.c0, .slice q.a1 q.d.aa.ag.length q.c1, .slice q.a2 q.d.aa.am.length q.c2, .int .i64 q.d.ar, .slice q.a4 q.d.ai.length q.c4, .int .i64 q.d.ax, .slice q.a6 q.d.al.length q.c6, .bool q.d.az], .slice (some ⟨gL, 0 + kL * 5, none⟩) 4 cpS, .int .i64 lv, .agg #[.int .i64 p.aB, .int .i64 p.aj, .int .i64 p.av, .int .i64 p.aC, .int .i64 p.aq]] w fun e w' => ∃ (q' : SQ) (r : ZeG), r = Ya q.d c lv p ∧ q' = { q with d := r.st } ∧ e = .returned (.tuple #[.agg #[.slice q'.a0 q'.d.ac.length q'.c0, .slice q'.a1 q'.d.aa.ag.length q'.c1, .slice q'.a2 q'.d.aa.am.length q'.c2, .int .i64 q'.d.ar, .slice q'.a4 q'.d.ai.length q'.c4, .int .i64 q'.d.ax, .slice q'.a6 q'.d.al.length q'.c6, .bool q'.d.az], .agg #[.int .i64 r.p.aB, .int .i64 r.p.aj, .int .i64 r.p.av, .int .i64 r.p.aC, .int .i64 r.p.aq], .bool r.ok]) ∧ St w0 (q'.asr :: Zg PtrD.cells 5 40 (.slice (some ⟨gL, 0, none⟩) L.length cpL) L :: F) w' := Zku w0 w q.a0 q.c0 q.a1 q.c1 q.a2 q.c2 q.a4 q.c4 q.a6 q.c6 q.d gL cpL kL cpS L c lv p F hkL hc hcl hco hpo hlv hq hS.sqOut
structure Up (k : Nat) (st : Za) : Prop where
  rows : st.ac.length = 64
  refs : st.aa.ag.length = 64
  last : st.aa.am.length = 64
  lo : ∀ i, -(k : Int) ≤ st.aa.ag.getD i 0 ∧ st.aa.ag.getD i 0 ≤ 900
  gone : st.ai.length ≤ 500000 + k
  dead : st.al.length ≤ 500000 + k
theorem Zkv (s : Zq) (i j : Nat) (hi : i < s.ag.length) : (s.give i).ag.getD j 0 = if i = j then s.ag.getD i 0 - 1 else s.ag.getD j 0 := XL hi
theorem Up.free {k : Nat} {st : Za} (h : Up k st) {p : PtrD} (hp : p.ok = true) : Up (k + 1) (st.free p) := by
 have hlo : ∀ i, -((k + 1 : Nat) : Int) ≤ st.aa.ag.getD i 0 ∧ st.aa.ag.getD i 0 ≤ 900 := fun i => by have := h.lo i; omega
 cases hh : p.hole with
 | true => rw [Zca hh]; exact ⟨h.rows, h.refs, h.last, hlo, by have := h.gone; omega, by have := h.dead; omega⟩
 | false =>
  by_cases h1 : p.aj ≤ st.ax
  ·rw [Zcb hh h1]; exact ⟨h.rows, h.refs, h.last, hlo, by have := h.gone; show st.ai.length ≤ _; omega, by have := h.dead; show (st.al ++ [p]).length ≤ _; rw [length_append, length_singleton]; omega⟩
  ·by_cases h2 : p.aj < st.ar
   ·rw [Zcc hh h1 h2]; exact ⟨h.rows, h.refs, h.last, hlo, by have := h.gone; show (st.ai ++ [p]).length ≤ _; rw [length_append, length_singleton]; omega, by have := h.dead; show st.al.length ≤ _; omega⟩
   ·rw [Zae hh h1 h2]
    refine ⟨by show (Yk _ _ _).length = 64; rw [Xq]; exact h.rows, by show (Zq.give _ _).ag.length = 64; rw [Zq.give_refs]; exact h.refs, by show (Zq.give _ _).am.length = 64; rw [Zq.give_last]; exact h.last, fun i => ?_, by have := h.gone; show st.ai.length ≤ _; omega, by have := h.dead; show st.al.length ≤ _; omega⟩;obtain ⟨a, h8, ha, e⟩ := ZaV hp hh;show -((k + 1 : Nat) : Int) ≤ (st.aa.give p.aB.toNat).ag.getD i 0 ∧ (st.aa.give p.aB.toNat).ag.getD i 0 ≤ 900;rw [e, Int.toNat_natCast, Zkv _ _ _ (by rw [h.refs]; exact ha)];have := h.lo a; have := h.lo i
    split <;> omega
theorem ZhC {xs : List Int} {i : Nat} {v : Int} (h : i < xs.length) : (xs.set i v)[i]? = some v := List.getElem?_set_self h
theorem Zkw (p : PtrD) (h0 : 0 ≤ p.aB) (h1 : p.aB ≤ 63) : ((List.range 64).map fun i => cnt [p] i).sum = 1 := by
 obtain ⟨a, ha, e⟩ : ∃ a : Nat, a < 64 ∧ p.aB = (a : Int) := ⟨p.aB.toNat, by omega, by omega⟩;have hc : ∀ i, cnt [p] i = if a = i then 1 else 0 := fun i => by
  rw [YT, Jg, e]
  by_cases h : a = i
  ·rw [if_pos h, if_pos (by omega)]
  ·rw [if_neg h, if_neg (by omega)]
 rw [show (fun i => cnt [p] i) = fun i => if a = i then 1 else 0 from funext hc];clear hc e h0 h1;revert a
 decide
theorem ZcW (f g : Nat → Nat) : ∀ l : List Nat, (l.map fun i => f i + g i).sum = (l.map f).sum + (l.map g).sum
 | [] => rfl
 | x :: r => by simp only [map_cons, List.sum_cons, ZcW f g r]; omega
theorem Zju : ∀ {ps : List PtrD}, (∀ p ∈ ps, 0 ≤ p.aB ∧ p.aB ≤ 63) → ps.length = ((List.range 64).map fun i => cnt ps i).sum
 | [], _ => by decide
 | p :: r, h => by
  have hp := h p (mem_cons_self ..);have ih := Zju fun q hq => h q (mem_cons_of_mem _ hq)
  have e : (fun i => cnt (p :: r) i) = fun i => cnt [p] i + cnt r i := funext fun i => by rw [show p :: r = [p] ++ r from rfl, Zj]
  rw [e, ZcW, Zkw p hp.1 hp.2, ← ih, length_cons]; omega
theorem Zmu (f : Nat → Nat) (b : Nat) : ∀ l : List Nat, (∀ i ∈ l, f i ≤ b) → (l.map f).sum ≤ l.length * b
 | [], _ => by simp
 | x :: r, h => by
  have := h x (mem_cons_self ..);have := Zmu f b r fun i hi => h i (mem_cons_of_mem _ hi)
  rw [map_cons, List.sum_cons, length_cons, Nat.succ_mul]; omega
theorem Zgr {st : Za} (h : st.ok = true) : st.ai.length + st.al.length ≤ 57600 := by
 have hO := Za.ok_spec h;have hP := Zq.ok_spec hO.space;have hin : ∀ {ps : List PtrD} {m : Int}, ps.all (fun p => YA p m) = true → ∀ p ∈ ps, 0 ≤ p.aB ∧ p.aB ≤ 63 := fun {ps m} ha p hp => by
  have := List.all_eq_true.1 ha p hp;unfold YA at this;simp only [Bool.and_eq_true, Bool.not_eq_true', decide_eq_true_eq] at this;have := Zis this.1 this.2.1
  omega
 have hall : ∀ p ∈ st.ai ++ st.al, 0 ≤ p.aB ∧ p.aB ≤ 63 := fun p hp => (mem_append.1 hp).elim (hin hO.gone p) (hin hO.dead p)
 have e := Zju hall;rw [length_append] at e;rw [e];have := Zmu (fun i => cnt (st.ai ++ st.al) i) 900 (List.range 64) fun i hi => by
  have := YQ.1 hO.owed i (List.mem_range.1 hi);have := (hP.all i).2
  omega
 rw [List.length_range] at this;exact this
theorem QI {st : Za} (h : st.ok = true) : Up 0 st := by
 have hO := Za.ok_spec h;have hP := Zq.ok_spec hO.space;have hl := Zgr h;exact ⟨hO.rows, hP.refs, hP.last, fun i => by have := hP.all i; exact ⟨by omega, this.2⟩, by omega, by omega⟩
theorem Up.more {k m : Nat} {st : Za} (h : Up k st) (hm : k ≤ m) : Up m st := ⟨h.rows, h.refs, h.last, fun i => by have := h.lo i; omega, by have := h.gone; omega, by have := h.dead; omega⟩
theorem St.sqClose {W w : World} {d0 : Option Addr} {f0 : Nat} {d1 : Option Addr} {f1 : Nat} {d2 : Option Addr} {f2 : Nat} {d4 : Option Addr} {f4 : Nat} {d6 : Option Addr} {f6 : Nat} {n0 n1 n2 n4 n6 : Nat} {F : List Asr} (s : Za) (h : St W (Zg Zt 1 9 (.slice d0 n0 f0) s.ac :: Zg ZH 1 3 (.slice d1 n1 f1) s.aa.ag :: Zg ZH 1 3 (.slice d2 n2 f2) s.aa.am :: Zg PtrD.cells 5 40 (.slice d4 n4 f4) s.ai :: Zg PtrD.cells 5 40 (.slice d6 n6 f6) s.al :: F) w) (h0 : n0 = s.ac.length) (h1 : n1 = s.aa.ag.length) (h2 : n2 = s.aa.am.length) (h4 : n4 = s.ai.length) (h6 : n6 = s.al.length) : St W (SQ.asr ⟨d0, f0, d1, f1, d2, f2, d4, f4, d6, f6, s⟩ :: F) w := by
 subst h0 h1 h2 h4 h6;exact St.sqIn (q := ⟨d0, f0, d1, f1, d2, f2, d4, f4, d6, f6, s⟩) h
theorem Zkx (w0 w : World) (d1 : Option Addr) (f1 : Nat) (d2 : Option Addr) (f2 : Nat) (s : Zq) (i : Nat) (F : List Asr) (hi : i < 64) (h1 : s.ag.length = 64) (h2 : s.am.length = 64) (hlo : -1000000 ≤ s.ag.getD i 0 ∧ s.ag.getD i 0 ≤ 900) (hS : St w0 (Zg ZH 1 3 (.slice d1 s.ag.length f1) s.ag :: Zg ZH 1 3 (.slice d2 s.am.length f2) s.am :: F) w) : Calls prog 264 #[.agg #[.slice d1 s.ag.length f1, .slice d2 s.am.length f2], .int .i64 (i : Int)] w fun e w' => ∃ (d1 d2 : Option Addr), e = .returned (.agg #[.slice d1 s.ag.length f1, .slice d2 s.am.length f2]) ∧ St w0 (Zg ZH 1 3 (.slice d1 s.ag.length f1) ((s.give i).ag) :: Zg ZH 1 3 (.slice d2 s.am.length f2) ((s.give i).am) :: F) w' := by
 have E := Bx.mk hS; clear hS;refine ent func264 ntmps264 ?_;refine xsr ?_;refine ybx E ?_;clear E;intro w1 b1 E;refine yal [.slice none 0 0, .slice none 0 0] E ?_;clear E;intro w2 b2 E;refine xne<|xsq ?_;obtain ⟨g3, rfl, _, _, _, _⟩ := E.o.rowOpen 2 rfl (by omega);intro a J;refine UY 10 (by kernel_rfl) (by kernel_rfl) E.o ?_;simp only [List.take_succ_cons, List.take_zero, List.drop_succ_cons, List.drop_zero];intro w3 E;replace E := Bx.mk E;refine ZQ rfl J rfl rfl (yfa 0 rfl (J.ev rfl)) ?_; clear J a; intro a J;refine ZQ rfl J rfl rfl (ylo (v := .slice (some ⟨g3, 0, none⟩) s.ag.length f1) rfl (J.ev rfl) (((E.o.box 1 rfl).cell 0).trans rfl)) ?_; clear J a; intro a J;refine ZQ rfl J rfl rfl (YV rfl (J.ev rfl)) ?_; clear J a; intro a J;refine ZQ rfl J rfl rfl (yfa 0 rfl (J.ev rfl)) ?_; clear J a; intro a J;refine ZQ rfl J rfl rfl (ylo (v := .slice (some ⟨g3, 0, none⟩) s.ag.length f1) rfl (J.ev rfl) (((E.o.box 1 rfl).cell 0).trans rfl)) ?_; clear J a; intro a J;refine ZQ rfl J rfl rfl (YV rfl (J.ev rfl)) ?_; clear J a; intro a J;refine ZQ rfl J rfl rfl (ZY (e := 3) (i := i) (size := 1) rfl (J.ev rfl) (J.ev rfl) (by kernel_rfl) rfl (by omega)) ?_; clear J a; intro a J;refine ZQ rfl J rfl rfl (ylo (v := .int .i64 (s.ag.getD i 0)) rfl (J.ev rfl) (E.o.elem1 Zp 2 rfl (Zh (xs := s.ag) (j := i) (d := 0) (by omega)) rfl)) ?_; clear J a; intro a J;refine ZQ rfl J rfl rfl (ZJ rfl (J.ev rfl) (J.ev rfl) (Yb (by omega))) ?_; clear J a; intro a J;refine ZQ rfl J rfl rfl (ZY (e := 3) (i := i) (size := 1) rfl (J.ev rfl) (J.ev rfl) (by kernel_rfl) rfl (by omega)) ?_; clear J a; intro a J;refine wpStill_nil ?_;refine Yc Zp rfl rfl rfl (J.ev rfl) (J.ev rfl) (by kernel_rfl) E.o 2 rfl (by omega) (z := ((s.ag.getD i 0) - 1)) rfl rfl ?_; clear E; intro w4 E; replace E := Bx.mk E;revert a;refine xne<|xsq<|xsr<|Xf 0 rfl<|Xl 1 E rfl rfl<|xr 1 rfl<|xy rfl (vx 3 i 1 rfl)<|xy rfl (fun a J=>ylo (v := .int .i64 (s.ag.getD i 0 - 1)) rfl (J.ev rfl) (E.o.elem1 Zp 2 rfl (ZhC (xs := s.ag) (i := i) (by omega)) rfl))<|xr 1 rfl<|xne<|xce 20 rfl (fun _ dcc1=>?_) fun _ dcc1=>?_
 refine xct rfl ?_;obtain ⟨g4, rfl, _, _, _, _⟩ := E.o.rowOpen 3 rfl (by omega);refine xrl<|Xf 1 rfl<|Xl 1 E rfl rfl<|xr 1 rfl<|xy rfl (vx 3 i 1 rfl) ?_;intro a J;refine Yc Zp rfl rfl rfl (J.ev rfl) (J.ev rfl) (by kernel_rfl) E.o 3 rfl (by omega) (z := 0) rfl rfl ?_; clear E; intro w5 E; replace E := Bx.mk E;revert a;refine xne<|xsr<|Xw 1 2 E rfl rfl ?_;refine yst E 0 ?_;clear E;intro w6 E;replace E:=E.nm;refine xne<|xre ?_;intro a J;refine ZA J results264 (J.resBox rfl (E.o.box 0 rfl) (by kernel_rfl)) ?_;replace E:=E.pks [3,3];have hg : (s.give i).am = s.am.set i 0 := if_pos (by omega);exact ⟨_, _, rfl, by rw [hg]; exact (E.o.erS [3,2])⟩;refine xcf rfl<|xsk<|xet<|xsr<|Xw 1 2 E rfl rfl ?_;refine yst E 0 ?_;clear E;intro w7 E;replace E:=E.nm;refine xne<|xre ?_;intro a J;refine ZA J results264 (J.resBox rfl (E.o.box 0 rfl) (by kernel_rfl)) ?_;replace E:=E.pks [3,3];have hg : (s.give i).am = s.am := if_neg (by omega);exact ⟨_, _, rfl, by rw [hg]; exact (E.o.erS [3,2])⟩
theorem Zky (w0 w : World) (d0 : Option Addr) (f0 : Nat) (d1 : Option Addr) (f1 : Nat) (d2 : Option Addr) (f2 : Nat) (d4 : Option Addr) (f4 : Nat) (d6 : Option Addr) (f6 : Nat) (st : Za) (i k : Nat) (F : List Asr) (hi : i < 64) (hK : Up k st) (hk : k ≤ 1000) (hS : St w0 (Zg Zt 1 9 (.slice d0 st.ac.length f0) st.ac :: Zg ZH 1 3 (.slice d1 st.aa.ag.length f1) st.aa.ag :: Zg ZH 1 3 (.slice d2 st.aa.am.length f2) st.aa.am :: Zg PtrD.cells 5 40 (.slice d4 st.ai.length f4) st.ai :: Zg PtrD.cells 5 40 (.slice d6 st.al.length f6) st.al :: F) w) : Calls prog 215 #[sV d0 f0 d1 f1 d2 f2 d4 f4 d6 f6 st, .int .i64 (i : Int)] w fun e w' => ∃ q' : SQ, q'.d = { st with ac := Yk st.ac st.aa i, aa := st.aa.give i } ∧ e = .returned (q'.u) ∧ St w0 (q'.asr :: F) w' := by
 have E := Bx.mk hS; clear hS;have hl0 := hK.rows; have hl1 := hK.refs; have hl2 := hK.last; have hg1 := Zq.give_refs st.aa i;have hgv : (st.aa.give i).ag[i]? = some (st.aa.ag.getD i 0 - 1) := ZhC (by omega);refine ent func215 ntmps215 ?_;refine xsr ?_;refine ybx E ?_;clear E;intro w1 b1 E;refine yal z8 E ?_;clear E;intro w2 b2 E;refine xne<|xsr<|Xf 1 rfl<|Xw 1 2 E rfl rfl<|xr 1 rfl ?_;replace E:=E.pks [4,4];refine yc (Zkx w0 _ d1 f1 d2 f2 st.aa i _ hi hK.refs hK.last (by have := hK.lo i; omega) E.o) func264 ?_;rintro _ w3 ⟨e1, e2, rfl, hs1⟩;refine ⟨_, rfl, ?_⟩; replace E := Bx.mk hs1;clear hs1;refine Xf 1 rfl ?_;intro a J;refine Z6 rfl rfl rfl (J.ev rfl) (J.ev rfl) E.o 3 rfl (by kernel_rfl) rfl (by kernel_rfl) (rs := sL d0 f0 e1 f1 e2 f2 d4 f4 d6 f6 st) rfl ?_; clear E; intro w4 E; replace E := Bx.mk E;replace E:=E.nm;refine Zbg<|wp_seq<|wp_seq ?_;obtain ⟨g3, rfl, _, _, _, _⟩ := E.o.rowOpen 0 rfl (by omega);revert a;refine xrl<|Xf 1 rfl<|Xf 0 rfl<|Xl 3 E rfl rfl<|xr 1 rfl<|xy rfl (vx 3 i 1 rfl)<|xy rfl (fun a J=>ylo (v := .int .i64 (st.aa.ag.getD i 0 - 1)) rfl (J.ev rfl) (E.o.elem1 Zp 0 rfl hgv rfl))<|xr 1 rfl<|xne<|xce 16 rfl (fun _ dcc1=>?_) fun _ dcc1=>?_
 refine xct rfl ?_;obtain ⟨g4, rfl, _, _, _, _⟩ := E.o.rowOpen 4 rfl (by omega);refine xrl<|Xf 0 rfl<|Xl 3 E rfl rfl<|xr 1 rfl<|xy rfl (vx 9 i 1 rfl) ?_;intro a J;refine Yc Zi rfl rfl rfl (J.ev rfl) (J.ev rfl) (by kernel_rfl) E.o 4 rfl (by omega) (z := (⟨#[]⟩ : ByteArray)) rfl rfl ?_; clear E; intro w5 E; replace E := Bx.mk E;revert a;refine xne<|xsr<|Xw 3 8 E rfl rfl ?_;refine yst E 2 ?_;clear E;intro w6 E;replace E:=E.nm;refine xne<|xre ?_;intro a J;refine ZA J results215 (J.resBox rfl (E.o.box 2 rfl) (by kernel_rfl)) ?_;replace E:=E.pks [6,6,3,3,6];have hg : Yk st.ac st.aa i = st.ac.set i ByteArray.empty := if_pos (by omega);exact ⟨⟨_, _, _, _, _, _, _, _, _, _, { st with ac := Yk st.ac st.aa i, aa := st.aa.give i }⟩, rfl, by dsimp only [SQ.u]; rw [Xq, Zq.give_refs, Zq.give_last] <;> rfl, St.sqClose _ (by dsimp only [SQ.u]; rw [hg]; exact (E.o.erS [6,5])) (Xq _ _ _).symm (Zq.give_refs _ _).symm (Zq.give_last _ _).symm rfl rfl⟩;refine xcf rfl<|xsk<|xet<|xsr<|Xw 3 8 E rfl rfl ?_;refine yst E 2 ?_;clear E;intro w7 E;replace E:=E.nm;refine xne<|xre ?_;intro a J;refine ZA J results215 (J.resBox rfl (E.o.box 2 rfl) (by kernel_rfl)) ?_;replace E:=E.pks [6,6,3,3,6];have hg : Yk st.ac st.aa i = st.ac := if_neg (by omega);exact ⟨⟨_, _, _, _, _, _, _, _, _, _, { st with ac := Yk st.ac st.aa i, aa := st.aa.give i }⟩, rfl, by dsimp only [SQ.u]; rw [Xq, Zq.give_refs, Zq.give_last] <;> rfl, St.sqClose _ (by dsimp only [SQ.u]; rw [hg]; exact (E.o.erS [6,5])) (Xq _ _ _).symm (Zq.give_refs _ _).symm (Zq.give_last _ _).symm rfl rfl⟩
theorem Zfx (w0 w : World) (d0 : Option Addr) (f0 : Nat) (d1 : Option Addr) (f1 : Nat) (d2 : Option Addr) (f2 : Nat) (d4 : Option Addr) (f4 : Nat) (d6 : Option Addr) (f6 : Nat) (st : Za) (a : Int) (i k : Nat) (F : List Asr) (ha : a = (i : Int)) (hi : i < 64) (hK : Up k st) (hk : k ≤ 1000) (hS : St w0 (Zg Zt 1 9 (.slice d0 st.ac.length f0) st.ac :: Zg ZH 1 3 (.slice d1 st.aa.ag.length f1) st.aa.ag :: Zg ZH 1 3 (.slice d2 st.aa.am.length f2) st.aa.am :: Zg PtrD.cells 5 40 (.slice d4 st.ai.length f4) st.ai :: Zg PtrD.cells 5 40 (.slice d6 st.al.length f6) st.al :: F) w) : Calls prog 215 #[.agg #[.slice d0 st.ac.length f0, .slice d1 st.aa.ag.length f1, .slice d2 st.aa.am.length f2, .int .i64 st.ar, .slice d4 st.ai.length f4, .int .i64 st.ax, .slice d6 st.al.length f6, .bool st.az], .int .i64 a] w fun e w' => ∃ q' : SQ, q'.d = { st with ac := Yk st.ac st.aa i, aa := st.aa.give i } ∧ e = .returned (.agg #[.slice q'.a0 q'.d.ac.length q'.c0, .slice q'.a1 q'.d.aa.ag.length q'.c1, .slice q'.a2 q'.d.aa.am.length q'.c2, .int .i64 q'.d.ar, .slice q'.a4 q'.d.ai.length q'.c4, .int .i64 q'.d.ax, .slice q'.a6 q'.d.al.length q'.c6, .bool q'.d.az]) ∧ St w0 (q'.asr :: F) w' := by
 subst ha;exact Zky w0 w d0 f0 d1 f1 d2 f2 d4 f4 d6 f6 st i k F hi hK hk hS
theorem Zkz (w0 w : World) (d0 : Option Addr) (f0 : Nat) (d1 : Option Addr) (f1 : Nat) (d2 : Option Addr) (f2 : Nat) (d4 : Option Addr) (f4 : Nat) (d6 : Option Addr) (f6 : Nat) (st : Za) (p : PtrD) (k : Nat) (F : List Asr) (hpo : p.ok = true) (hK : Up k st) (hk : k ≤ 1000) (hS : St w0 (Zg Zt 1 9 (.slice d0 st.ac.length f0) st.ac :: Zg ZH 1 3 (.slice d1 st.aa.ag.length f1) st.aa.ag :: Zg ZH 1 3 (.slice d2 st.aa.am.length f2) st.aa.am :: Zg PtrD.cells 5 40 (.slice d4 st.ai.length f4) st.ai :: Zg PtrD.cells 5 40 (.slice d6 st.al.length f6) st.al :: F) w) : Calls prog 174 #[sV d0 f0 d1 f1 d2 f2 d4 f4 d6 f6 st, pV p] w fun e w' => ∃ q' : SQ, q'.d = st.free p ∧ e = .returned (q'.u) ∧ St w0 (q'.asr :: F) w' := by
 have E := Bx.mk hS; clear hS;have hg4 := hK.gone; have hg6 := hK.dead;refine ent func174 ntmps174 ?_;refine xsr ?_;refine ybx E ?_;clear E;intro w1 b1 E;refine ybx E ?_;clear E;intro w2 b2 E;refine yal z8 E ?_;clear E;intro w3 b3 E;refine xne<|xsq<|xbl<|xsr<|Xw 1 5 E rfl rfl ?_;refine ycB (Zy p _) func100 E ?_;clear E;intro w4 E;refine xr 1 rfl<|xne<|xcs 9 rfl (fun cc1=>?_) fun cc1=>?_;refine xct rfl<|xsr<|Xw 2 8 E rfl rfl ?_;refine yst E 0 ?_;clear E;intro w5 E;replace E:=E.nm;refine xne<|xre<|xbr<|xtr ?_;intro a J;refine ZA J results174 (J.resBox rfl (E.o.box 0 rfl) (by kernel_rfl)) ?_;replace E:=E.pks [7,7,7,7,7];exact ⟨⟨d0, f0, d1, f1, d2, f2, d4, f4, d6, f6, st⟩, (Zca (by assumption)).symm, rfl, St.sqIn (q := ⟨d0, f0, d1, f1, d2, f2, d4, f4, d6, f6, st⟩) (E.o.erS [7,6,5])⟩;have hph := cc1;refine xcf rfl<|xsr<|Xf 1 rfl<|Xl 1 E rfl rfl<|Xf 5 rfl<|Xl 2 E rfl rfl<|xr 2 rfl<|xne<|xcd 13 rfl (fun _ dcc2=>?_) fun _ dcc2=>?_;refine xct rfl<|xrl<|Xf 6 rfl<|Xl 2 E rfl rfl<|Xw 1 5 E rfl rfl ?_;refine ybs PtrD.cells 40 5 [p] E ?_;clear E;intro b4 w6 E;intro a J;refine Xo rfl J rfl rfl rfl (J.ev rfl) (J.ev rfl) Xe PtrD.cells_len E.o 8 (xs := st.al) rfl (ys := [p]) (St.rdN E.o PtrD.cells_len 0 rfl) (Zx _) (by unfold maxLen; simp only [length_singleton]; omega) (by simp only [length_singleton]; omega) ?_; clear J E a; intro ao5 cp6 w7 a J E; replace E := Bx.mk E;revert a;refine Xf 6 rfl ?_;refine ysF 3 E ?_;clear E;intro w8 E;replace E:=E.nm;refine xni<|xeb<|xet<|xsr<|Xw 3 8 E rfl rfl ?_;refine yst E 1 ?_;clear E;intro w9 E;replace E:=E.nm;refine xne<|xre ?_;intro a J;refine ZA J results174 (J.resBox rfl (E.o.box 1 rfl) (by kernel_rfl)) ?_;replace E:=E.pks [8,8,8,8,8];exact ⟨⟨_, _, _, _, _, _, _, _, _, _, { st with al := st.al ++ [p] }⟩, (Zcb hph (by omega)).symm, by dsimp only [SQ.u]; rw [length_append] <;> rfl, St.sqClose { st with al := st.al ++ [p] } (E.o.erS [8,7,6,5]) rfl rfl rfl rfl (length_append ..).symm⟩;refine xcf rfl<|xsr<|Xf 1 rfl<|Xl 1 E rfl rfl<|Xf 3 rfl<|Xl 2 E rfl rfl<|xr 2 rfl<|xne<|xcd 25 rfl (fun _ dcc3=>?_) fun _ dcc3=>?_;refine xct rfl<|xrl<|Xf 4 rfl<|Xl 2 E rfl rfl<|Xw 1 5 E rfl rfl ?_;refine ybs PtrD.cells 40 5 [p] E ?_;clear E;intro b7 w10 E;intro a J;refine Xo rfl J rfl rfl rfl (J.ev rfl) (J.ev rfl) Xe PtrD.cells_len E.o 7 (xs := st.ai) rfl (ys := [p]) (St.rdN E.o PtrD.cells_len 0 rfl) (Zx _) (by unfold maxLen; simp only [length_singleton]; omega) (by simp only [length_singleton]; omega) ?_; clear J E a; intro ao8 cp9 w11 a J E; replace E := Bx.mk E;revert a;refine Xf 4 rfl ?_;refine ysF 3 E ?_;clear E;intro w12 E;replace E:=E.nm;refine xni<|xeb<|xet<|xsr<|Xw 3 8 E rfl rfl ?_;refine yst E 1 ?_;clear E;intro w13 E;replace E:=E.nm;refine xne<|xre ?_;intro a J;refine ZA J results174 (J.resBox rfl (E.o.box 1 rfl) (by kernel_rfl)) ?_;replace E:=E.pks [8,8,8,8,8];exact ⟨⟨_, _, _, _, _, _, _, _, _, _, { st with ai := st.ai ++ [p] }⟩, (Zcc hph (by omega) (by omega)).symm, by dsimp only [SQ.u]; rw [length_append] <;> rfl, St.sqClose { st with ai := st.ai ++ [p] } (E.o.erS [8,7,6,5]) rfl rfl rfl (length_append ..).symm rfl⟩;refine xcf rfl<|xsr<|Xw 2 8 E rfl rfl<|Xf 0 rfl<|Xl 1 E rfl rfl ?_;replace E:=E.pks [7,7,7,7,7];obtain ⟨i, h8, hi, hpi⟩ := ZaV hpo hph;have hi2 : p.aB = ((i : Nat) : Int) := hpi;refine yc (Zfx w0 _ d0 f0 d1 f1 d2 f2 d4 f4 d6 f6 st p.aB i k _ hpi hi hK hk E.o) func215 ?_;rintro _ w14 ⟨q1, hq1, rfl, hs1⟩;refine ⟨_, rfl, ?_⟩; replace E := Bx.mk hs1;clear hs1;refine yst E 1 ?_;clear E;intro w15 E;replace E:=E.nm;refine xne<|xre<|xbr<|xtr ?_;intro a J;refine ZA J results174 (J.resBox rfl (E.o.box 1 rfl) (by kernel_rfl)) ?_;replace E:=E.pks [0];exact ⟨q1, by rw [hq1, Zae hph (by omega) (by omega), hpi, Int.toNat_natCast], rfl, (E.o.erS [3,2,1])⟩
theorem Jr (w0 w : World) (q : SQ) (p : PtrD) (k : Nat) (F : List Asr) (hpo : p.ok = true) (hK : Up k q.d) (hk : k ≤ 1000) (hS : St w0 (q.asr :: F) w) : Calls prog 174 #[.agg #[.slice q.a0 q.d.ac.length q.c0, .slice q.a1 q.d.aa.ag.length q.c1, .slice q.a2 q.d.aa.am.length q.c2, .int .i64 q.d.ar, .slice q.a4 q.d.ai.length q.c4, .int .i64 q.d.ax, .slice q.a6 q.d.al.length q.c6, .bool q.d.az], .agg #[.int .i64 p.aB, .int .i64 p.aj, .int .i64 p.av, .int .i64 p.aC, .int .i64 p.aq]] w fun e w' => ∃ q' : SQ, q'.d = q.d.free p ∧ e = .returned (.agg #[.slice q'.a0 q'.d.ac.length q'.c0, .slice q'.a1 q'.d.aa.ag.length q'.c1, .slice q'.a2 q'.d.aa.am.length q'.c2, .int .i64 q'.d.ar, .slice q'.a4 q'.d.ai.length q'.c4, .int .i64 q'.d.ax, .slice q'.a6 q'.d.al.length q'.c6, .bool q'.d.az]) ∧ St w0 (q'.asr :: F) w' := Zkz w0 w q.a0 q.c0 q.a1 q.c1 q.a2 q.c2 q.a4 q.c4 q.a6 q.c6 q.d p k F hpo hK hk hS.sqOut
section
variable {P : Program} {o : Oper} {a : Act} {w : World} {e : TypeId}
theorem ZhD {t : TypeId} {x y z : Operand} (ho : o.op = .slice t x (some y) (some z) none) {g off n cap : Nat} (hx : a.eval x = .slice (some ⟨g, off, none⟩) n cap) {kk k2 : IntKind} {m m2 : Int} (hy : a.eval y = .int kk m) (hz : a.eval z = .int k2 m2) {size : Nat} (hu : Yv P t = some (e, size)) {k j : Nat} (hm : m = (k : Int)) (hm2 : m2 = ((k + j : Nat) : Int)) (hc : k + j ≤ cap) (hk : k < cap) : Yl P w o a (.slice (some ⟨g, off + k * size, none⟩) j (cap - k)) := by
 unfold Yv at hu
 split at hu
 ·rename_i e' hu'
  split at hu
  ·rename_i inf hq
   simp only [Option.some.injEq, Prod.mk.injEq] at hu;obtain ⟨_, rfl⟩ := hu;subst hm hm2;have h2 : (((k + j : Nat) : Int) ≤ (cap : Int)) := by omega
   have h3 : ¬ cap = k := by omega
   have h4 : (k : Int) ≤ ((k + j : Nat) : Int) := by omega
   unfold Yl execOp;simp only [ho, hx, hy, hz, Option.map_some, Option.map_none, Instr.sliceAt, Instr.slice, Sem.run_bind, run_underlying hu' w, Result.andThen_ok];simp [Instr.slice, Instr.sliceBounds, Instr.sliceBound, asIntOf, go_sem, run_underlying hu' w, sizeOf, typeInfo, hq, h2, h3, h4, Addr.add];rw [if_pos (by omega)]
   by_cases hz : k * inf.size = 0
   ·rw [if_pos hz, hz, Nat.add_zero, if_pos (show k ≤ ((k : Int) + (j : Int)).toNat by omega), show ((k : Int) + (j : Int)).toNat = k + j by omega, Nat.add_sub_cancel_left]
   ·rw [if_neg hz, if_pos (show k ≤ ((k : Int) + (j : Int)).toNat by omega), show ((k : Int) + (j : Int)).toNat = k + j by omega, Nat.add_sub_cancel_left]
  ·cases hu
 ·cases hu
end
theorem Zfy {w : World} {o : Oper} {a : Act} {x y : Operand} {t' : TypeId} (p q : PtrD) (ho : o.op = .binOp .eql 40 x y t') (hx : a.eval x = .agg #[.int .i64 p.aB, .int .i64 p.aj, .int .i64 p.av, .int .i64 p.aC, .int .i64 p.aq]) (hy : a.eval y = .agg #[.int .i64 q.aB, .int .i64 q.aj, .int .i64 q.av, .int .i64 q.aC, .int .i64 q.aq]) : Yl prog w o a (.bool (p.eqv q)) := by
 have he := Zjq p q 9998 w;unfold Yl execOp;simp only [ho, hx, hy];simp [eqGuard, binOp, go_sem, Op.equal];rw [show Op.maxDepth = 9998 + 2 from rfl, he]; rfl
theorem Zjv {dp lv : Nat} (h : dp ≤ 2) (h1 : 1 ≤ lv) : 4 ^ (dp + 1 - lv) ≤ 16 := by
 rcases (by omega : dp + 1 - lv = 0 ∨ dp + 1 - lv = 1 ∨ dp + 1 - lv = 2) with e | e | e <;> rw [e] <;> decide
theorem Zmv (j : Nat) : replicate j PtrD.zero ++ [PtrD.zero] = replicate (j + 1) PtrD.zero := List.replicate_succ'.symm
structure Zef (q0 q : SQ) (t : Zd) (dp : Nat) (R : Zc5) (lv : Nat) (ls sy : List PtrD) : Prop where
  lv1 : 1 ≤ lv
  lvd : lv ≤ dp + 1
  hd : q = { q0 with d := q.d }
  gr : Ja q0.d q.d
  ok : q.d.ok = true
  tot : XC t dp (dp + 1 - lv) lv q.d ls sy = R
  oks : ∀ p ∈ ls, p.ok = true
  len : ls.length ≤ 4 ^ (dp + 1 - lv)
  syl : sy.length ≤ 4 * (lv - 1)
structure Zc6 (q1 q : SQ) (P W0 : List PtrD) (lv m i : Nat) (RL : Zc5) (nx sy : List PtrD) (b : Nat) : Prop where
  im : i ≤ m
  hd : q = { q1 with d := q.d }
  gr : Ja q1.d q.d
  ok : q.d.ok = true
  tot : YZ (lv : Int) (m - i) (P.drop (i * 4)) (W0.drop i) q.d nx sy = RL
  oks : ∀ p ∈ nx, p.ok = true
  len : nx.length = i
  syl : sy.length ≤ b + i
theorem Zef.start {q0 : SQ} {t : Zd} {dp : Nat} {ls : List PtrD} (hok : q0.d.ok = true) (ho : ∀ p ∈ ls, p.ok = true) (hl : ls.length ≤ 4 ^ dp) : Zef q0 q0 t dp (XC t dp dp 1 q0.d ls []) 1 ls [] :=
 ⟨Nat.le_refl _, by omega, rfl, Ja.refl _, hok, rfl, ho, by simpa using hl, Nat.zero_le _⟩
theorem Zmw {st : Za} {t : Zd} {dp lv n : Nat} (h1 : 1 ≤ lv) (h2 : lv ≤ dp) (hd : dp ≤ 2) (hn : n ≤ 4 ^ (dp + 1 - lv)) : (n + 3) / 4 ≤ (Z9 st t dp lv).length := by
 have h4 : ∀ k, ((kidsS st t.af k).getD YC).length = 4 := fun k => by
  cases h : kidsS st t.af k with
  | none => rfl
  | some l => exact XW h
 unfold Z9;rcases (by omega : (dp = 1 ∧ lv = 1) ∨ (dp = 2 ∧ lv = 1) ∨ (dp = 2 ∧ lv = 2)) with ⟨rfl, rfl⟩ | ⟨rfl, rfl⟩ | ⟨rfl, rfl⟩
 ·split
  ·rw [if_pos rfl]; have hn : n ≤ 4 := hn; show _ ≤ 1; omega
  ·have hn : n ≤ 4 := hn; show _ ≤ 4; omega
 ·split
  ·rw [if_neg (by omega), h4]; have hn : n ≤ 16 := hn; omega
  ·have hn : n ≤ 16 := hn; show _ ≤ 4; omega
 ·split
  ·rw [if_pos rfl]; have hn : n ≤ 4 := hn; show _ ≤ 1; omega
  ·have hn : n ≤ 4 := hn; show _ ≤ 4; omega
theorem Zgs {st : Za} {t : Zd} {dp lv : Nat} (hr : t.af.ok = true) : ∀ p ∈ Z9 st t dp lv, p.ok = true := by
 have h4 : ∀ p ∈ YC, p.ok = true := fun p hp => by
  simp only [YC, mem_cons, List.not_mem_nil, or_false, or_self] at hp;rw [hp]; rfl
 intro p hp;unfold Z9 at hp
 split at hp
 ·split at hp
  ·rw [mem_singleton.1 hp]; exact hr
  ·cases h : kidsS st t.af (dp : Int) with
   | none => rw [h] at hp; exact h4 p hp
   | some l => rw [h] at hp; exact (QE (Uw h).1).2.1 p hp
 ·exact h4 p hp
theorem Za2 {xs : List PtrD} {i : Nat} : (xs.drop i).headD PtrD.zero = xs.getD i PtrD.zero := by
 rw [List.headD_eq_head?_getD, List.head?_drop, getD_eq_getElem?_getD]
theorem Zc6.start {q : SQ} {P W0 sy : List PtrD} {lv m : Nat} (hok : q.d.ok = true) : Zc6 q q P W0 lv m 0 (YZ (lv : Int) m P W0 q.d [] sy) [] sy sy.length :=
 ⟨Nat.zero_le _, rfl, Ja.refl _, hok, by simp, fun p hp => (nomatch hp), rfl, by omega⟩
theorem Zc6.step {q1 q z : SQ} {P W0 nx sy : List PtrD} {lv m i b : Nat} {RL : Zc5} (h : Zc6 q1 q P W0 lv m i RL nx sy b) (hi : i < m) {r : ZeG} (hr : r = Ya q.d ((P.drop (i * 4)).take 4) (lv : Int) (W0.getD i PtrD.zero)) (hz : z = { q with d := r.st }) (hok : r.ok = true)
  (hcl : ((P.drop (i * 4)).take 4).length = 4) (hco : ∀ p ∈ (P.drop (i * 4)).take 4, p.ok = true) (hlv : inB (lv : Int) 0 2 = true) (hw : (W0.getD i PtrD.zero).ok = true) : Zc6 q1 z P W0 lv m (i + 1) RL (nx ++ [r.p]) (QH sy r.p (W0.getD i PtrD.zero)) b := by
 have hg := Zgq hcl hco hlv hw h.ok;rw [← hr] at hg;subst hz;refine ⟨hi, ?_, h.gr.trans hg.1, hg.1.ok h.ok, ?_, fun p hp => ?_, ?_, ?_⟩
 ·show SQ.mk .. = SQ.mk ..
  have := h.hd;rw [this]
 ·have ht := h.tot
  have e : m - i = (m - (i + 1)) + 1 := by omega
  rw [e, Zhz (s := r.st) (p := r.p) (by rw [Za2, ← hr, ← hok]), List.drop_drop, List.drop_drop, Za2] at ht;rw [show (i + 1) * 4 = i * 4 + 4 by omega]; exact ht
 ·rcases mem_append.1 hp with hp | hp
  ·exact h.oks p hp
  ·rw [mem_singleton.1 hp]; exact hg.2
 ·rw [length_append, h.len]; rfl
 ·have := h.syl
  unfold QH
  split
  ·rw [length_append, length_singleton]; omega
  ·omega
theorem Zc6.fail {q1 q : SQ} {P W0 nx sy : List PtrD} {lv m i b : Nat} {RL : Zc5} (h : Zc6 q1 q P W0 lv m i RL nx sy b) (hi : i < m) {r : ZeG} (hr : r = Ya q.d ((P.drop (i * 4)).take 4) (lv : Int) (W0.getD i PtrD.zero)) (hok : r.ok = false) : r.st = q.d ∧ RL = ⟨q.d, nx, sy, false⟩ := by
 have hs : r.st = q.d := by
  rw [hr] at hok ⊢;unfold Ya at hok ⊢
  split at hok
  ·cases hok
  ·split at hok
   ·cases hok
   ·split at hok
    ·cases hok
    ·rw [if_neg (by assumption), if_neg (by assumption), if_neg (by assumption)]
 refine ⟨hs, ?_⟩;have ht := h.tot;have e : m - i = (m - (i + 1)) + 1 := by omega
 rw [e, Zjs (s := r.st) (p := r.p) (by rw [Za2, ← hr, ← hok]), hs] at ht;exact ht.symm
theorem Zc6.done {q1 q : SQ} {P W0 nx sy : List PtrD} {lv m i b : Nat} {RL : Zc5} (h : Zc6 q1 q P W0 lv m i RL nx sy b) (hi : ¬ i < m) : RL = ⟨q.d, nx, sy, true⟩ := by
 have ht := h.tot;rw [show m - i = 0 by omega] at ht;exact ht.symm
theorem Zef.next {q0 q z : SQ} {t : Zd} {dp : Nat} {R : Zc5} {lv : Nat} {ls sy P nx sy2 : List PtrD} (h : Zef q0 q t dp R lv ls sy) (hd2 : dp ≤ 2) (hl : lv ≤ dp) (hP : P = Xv ls) {m i : Nat} (hm : m = P.length / 4) (hb : Zc6 q z P (Z9 q.d t dp lv) lv m i (YZ (lv : Int) m P (Z9 q.d t dp lv) q.d [] sy) nx sy2 sy.length) (hi : ¬ i < m) : Zef q0 z t dp R (lv + 1) nx sy2 := by
 subst hP hm;have hd := hb.done hi;have ht := h.tot;have e : dp + 1 - lv = (dp + 1 - (lv + 1)) + 1 := by omega
 rw [e, Zmq hd] at ht;have hl2 := h.len;have hpl := VS ls;have hnl := hb.len;have him := hb.im;refine ⟨by omega, by omega, ?_, h.gr.trans hb.gr, hb.ok, ht, hb.oks, ?_, ?_⟩
 ·have h1 := hb.hd; have h2 := h.hd
  show z = SQ.mk ..;rw [h1]; show SQ.mk .. = SQ.mk ..;rw [h2]
 ·rw [e, Nat.pow_succ] at hl2
  omega
 ·have := hb.syl; have := h.syl; have := h.lv1
  have : i ≤ 4 := by
   have h16 := Zjv (dp := dp) hd2 h.lv1;rw [e, Nat.pow_succ] at h16;rw [e, Nat.pow_succ] at hl2
   omega
  omega
theorem Zef.stop {q0 q z : SQ} {t : Zd} {dp : Nat} {R : Zc5} {lv : Nat} {ls sy P nx sy2 : List PtrD} (h : Zef q0 q t dp R lv ls sy) (hl : lv ≤ dp) (hP : P = Xv ls) {m : Nat} (hm : m = P.length / 4) (hb : YZ (lv : Int) m P (Z9 q.d t dp lv) q.d [] sy = ⟨z.d, nx, sy2, false⟩) : R = ⟨z.d, nx, sy2, false⟩ := by
 subst hP hm;have ht := h.tot;have e : dp + 1 - lv = (dp + 1 - (lv + 1)) + 1 := by omega
 rw [e, ZnE hb] at ht;exact ht.symm
theorem Zef.done {q0 q : SQ} {t : Zd} {dp : Nat} {R : Zc5} {lv : Nat} {ls sy : List PtrD} (h : Zef q0 q t dp R lv ls sy) (hl : ¬ lv ≤ dp) : R = ⟨q.d, ls, sy, true⟩ := by
 have ht := h.tot;rw [show dp + 1 - lv = 0 by have := h.lvd; omega] at ht;exact ht.symm
theorem Za3 {st : Za} {t : Zd} (hr : t.af.ok = true) : (ZD st t).length ≤ 5 ∧ ∀ p ∈ ZD st t, p.ok = true := by
 unfold ZD
 split
 ·exact ⟨by simp, fun p hp => nomatch hp⟩
 ·split
  ·cases h : kidsS st t.af 2 with
   | none => exact ⟨by simp, fun p hp => by simp at hp; rw [hp]; exact hr⟩
   | some l =>
    have hl := XW h;have h9 := List.length_filter_le (fun p : PtrD => !p.hole) l;refine ⟨by show (l.filter _).length + 1 ≤ 5; omega, fun p hp => ?_⟩;rcases mem_cons.1 hp with rfl | hp
    ·exact hr
    ·exact (QE (Uw h).1).2.1 p (List.mem_filter.1 hp).1
  ·exact ⟨by simp, fun p hp => by simp at hp; rw [hp]; exact hr⟩
theorem Zeg {sy : List PtrD} {x : PtrD} {k : Nat} (hk : k < sy.length) : Q0 (sy.take (k + 1)) x = (Q0 (sy.take k) x || (sy.getD k PtrD.zero).eqv x) := by
 unfold Q0;exact UL hk _
theorem Zeh {sy inn : List PtrD} {i : Nat} {s : Za} (hi : i < inn.length) : Vj sy (inn.drop i) s = Vj sy (inn.drop (i + 1)) (if Q0 sy (inn.getD i PtrD.zero) = true then s else s.free (inn.getD i PtrD.zero)) := by
 rw [Uy hi]; rfl
theorem ZbR (w0 w : World) (q0 : SQ) (t : Zd) (aoL : Option Addr) (cpL : Nat) (lvs : List PtrD) (many dp : Nat) (F : List Asr) (hdp : depthN (many : Int) = dp) (hl16 : lvs.length = 16) (hlo : ∀ p ∈ lvs, p.ok = true) (hmany : many ≤ 16) (hq : q0.d.ok = true) (hroot : t.af.ok = true) (hkid : t.aw = 2 → t.af.hole = false → kidsS q0.d t.af 2 ≠ none) (hS : St w0 (q0.asr :: Zg PtrD.cells 5 40 (.slice aoL lvs.length cpL) lvs :: F) w) : Calls prog 173 #[q0.u, tV t, .slice aoL lvs.length cpL, .int .i64 (many : Int)] w fun e w' => ∃ (q' : SQ) (r : JU), r = Xy q0.d t lvs many ∧ q'.d = r.st ∧ (r.ok = false → q' = { q0 with d := r.st } ∧ Ja q0.d r.st) ∧ (r.ok = true → Up 5 q'.d) ∧ e = .returned (.tuple #[q'.u, tV r.t, .bool r.ok]) ∧ St w0 (q'.asr :: Zg PtrD.cells 5 40 (.slice aoL lvs.length cpL) lvs :: F) w' := by
 have hrow0 := Xa hq;have htk : (lvs.take many).length = many := by rw [length_take]; omega
 have hdp2 : dp ≤ 2 := hdp ▸ YK _;have hdf := ZaN (many := (many : Int)) (by omega); rw [hdp] at hdf;have E := Bx.mk hS; clear hS;refine ent func173 ntmps173 ?_;refine xsr ?_;refine ybx E ?_;clear E;intro w1 b1 E;refine ybx E ?_;clear E;intro w2 b2 E;refine yal z8 E ?_;clear E;intro w3 b3 E;refine yal z7 E ?_;clear E;intro w4 b4 E;refine xr 1 rfl<|xne<|xsr<|xr 1 rfl ?_;refine ycB (hdp ▸ VL (many : Int) _) func98 E ?_;clear E;intro w5 E;refine xr 1 rfl<|xne<|xsr<|Xw 3 8 E rfl rfl<|Xw 2 7 E rfl rfl ?_;refine yc (ZhB q0.a0 q0.c0 q0.a1 q0.c1 q0.a2 q0.c2 q0.a4 q0.c4 q0.a6 q0.c6 q0.d t hkid _ (E.o.sqRd 4 rfl) hrow0) func229 ?_;rintro _ w6 ⟨ao5, cp5, rfl, hs⟩;refine ⟨_, rfl, ?_⟩;replace E := E.ad hs;clear hs;refine xr 1 rfl<|xne<|xsr ?_;refine yem 40 5 E ?_;clear E;intro w7 b6 E;refine xr 2 rfl<|xy rfl (fun a J=>Jy (e := 40) (size := 5) (k := many) rfl (J.ev rfl) (J.ev rfl) (by kernel_rfl) (by omega) (Nat.le_trans (by omega) (St.capLe E.o 6 rfl))) ?_;replace E := Bx.mk (E.o.nilRow PtrD.cells 5 40 (some ⟨b6, 0, none⟩));intro a J;refine Xo rfl J rfl rfl rfl (J.ev rfl) (J.ev rfl) Xe PtrD.cells_len E.o 0 (xs := []) rfl (ys := lvs.take many) (Rd.take (St.rdOf E.o PtrD.cells_len 7 rfl) (k := many) (by omega)) (Zx _) (by unfold maxLen; (try simp only [length_append, length_cons, length_nil, nil_append, length_map]); omega) (by (try simp only [length_append, length_cons, length_nil, nil_append, length_map]); omega) ?_; clear J E a; intro ao8 cp9 w8 a J E; replace E := Bx.mk E;revert a;refine xr 1 rfl<|xne<|xsr ?_;refine yem 40 5 E ?_;clear E;intro w9 b10 E;refine xr 1 rfl<|xne<|xsq<|xsr<|xr 1 rfl<|xne<|xbl ?_;have hz11 : ([] : List PtrD).length + (lvs.take many).length = (([]) ++ (lvs.take many)).length := by simp only [length_append, length_nil, length_cons]
 intro a J;rw [hz11] at E J;replace E := Bx.mk (E.o.nilRow PtrD.cells 5 40 (some ⟨b10, 0, none⟩));replace E:=E.pks [6,1,2,7];refine Zs (ι := Nat) (fun lv a w => ∃ (q1 : SQ) (ao : Option Addr) (cp : Nat) (ls : List PtrD) (aS : Option Addr) (cs : Nat) (sy : List PtrD), (Zef q0 q1 t dp (XC t dp dp 1 q0.d (lvs.take many) []) lv ls sy) ∧ Fr 145 a [(2, .slice aoL lvs.length cpL), (3, .int .i64 (many : Int)), (4, .pointer (some ⟨b1, 0, none⟩)), (5, .pointer (some ⟨b2, 0, none⟩)), (8, .pointer (some ⟨b3, 0, none⟩)), (9, .pointer (some ⟨b4, 0, none⟩)), (10, .bool false), (11, .int .i64 (dp : Int)), (12, .slice ao5 ((ZD q0.d t).length) cp5), (13, .slice ao ls.length cp), (14, .slice aS sy.length cs), (15, .int .i64 (lv : Int))] ∧ St w0 (SQ.asr q1 :: Zg PtrD.cells 5 40 (.slice ao ls.length cp) ls :: Zg PtrD.cells 5 40 (.slice aS sy.length cs) sy :: boxA b1 8 39 (q1.u) :: Zg PtrD.cells 5 40 (.slice ao5 ((ZD q0.d t).length) cp5) (ZD q0.d t) :: boxA b4 7 42 (az7) :: boxA b3 8 39 (az8) :: boxA b2 7 42 (tV t) :: Zg PtrD.cells 5 40 (.slice aoL lvs.length cpL) lvs :: F) w) (fun lv => dp + 1 - lv) 1 ⟨q0, _, _, _, _, _, [], Zef.start hq (fun p hp => hlo p (List.mem_of_mem_take hp)) (by rw [length_take]; omega), J.less _ ⟨rfl, rfl, rfl, rfl, rfl, rfl, rfl, rfl, rfl, rfl, rfl, rfl, trivial⟩, E.o⟩ ?_;clear J E; clear a;rintro lv a w10 ⟨q1, ao, cp, ls, aS, cs, sy, hA, J, E⟩;replace E := Bx.mk E;have h416 : 4 ^ (dp + 1 - lv) ≤ 16 := Zjv hdp2 hA.lv1; have hlsl := hA.len; have hsyl := hA.syl; have hlv1 := hA.lv1; have hlvd := hA.lvd;revert a;refine xsq<|xsr<|xr 3 rfl<|xne<|xcd 39 rfl (fun _ dcc1=>?_) fun _ dcc1=>?_
 refine xct rfl<|xsk<|xet<|xsq<|xbl<|xsr<|Xw 3 8 E rfl rfl<|Xw 7 7 E rfl rfl<|xr 2 rfl ?_;refine yc (Zkt q1.a0 q1.c0 q1.a1 q1.c1 q1.a2 q1.c2 q1.a4 q1.c4 q1.a6 q1.c6 q1.d t dp lv _ (E.o.sqRd 0 rfl) (Xa hA.ok)) func230 ?_;rintro _ w11 ⟨ao12, cp12, rfl, hs⟩;refine ⟨_, rfl, ?_⟩;replace E := E.ad hs;clear hs;refine xr 1 rfl<|xne<|xsr ?_;refine yem 40 5 E ?_;clear E;intro w12 b13 E;refine xr 1 rfl<|xne<|xsq<|xbl ?_;replace E:=E.pks [2];intro a J;refine Zs (ι := Nat) (fun j a w => ∃ (ap : Option Addr) (cpP : Nat) (P : List PtrD), (P = ls ++ replicate j PtrD.zero ∧ j ≤ (4 - ls.length % 4) % 4) ∧ Fr 145 a [(2, .slice aoL lvs.length cpL), (3, .int .i64 (many : Int)), (4, .pointer (some ⟨b1, 0, none⟩)), (5, .pointer (some ⟨b2, 0, none⟩)), (8, .pointer (some ⟨b3, 0, none⟩)), (9, .pointer (some ⟨b4, 0, none⟩)), (10, .bool false), (11, .int .i64 (dp : Int)), (12, .slice ao5 ((ZD q0.d t).length) cp5), (14, .slice aS sy.length cs), (15, .int .i64 (lv : Int)), (16, .slice ao12 ((Z9 q1.d t dp lv).length) cp12), (17, .slice (some ⟨b13, 0, none⟩) 0 0), (13, .slice ap P.length cpP)] ∧ St w0 (Zg PtrD.cells 5 40 (.slice ap P.length cpP) P :: Zg PtrD.cells 5 40 (.slice ao12 ((Z9 q1.d t dp lv).length) cp12) (Z9 q1.d t dp lv) :: SQ.asr q1 :: Zg PtrD.cells 5 40 (.slice aS sy.length cs) sy :: boxA b1 8 39 (q1.u) :: Zg PtrD.cells 5 40 (.slice ao5 ((ZD q0.d t).length) cp5) (ZD q0.d t) :: boxA b4 7 42 (az7) :: boxA b3 8 39 (az8) :: boxA b2 7 42 (tV t) :: Zg PtrD.cells 5 40 (.slice aoL lvs.length cpL) lvs :: F) w) (fun j => (4 - ls.length % 4) % 4 - j) 0 ⟨_, _, _, ⟨(by simp), Nat.zero_le _⟩, J.less _ ⟨rfl, rfl, rfl, rfl, rfl, rfl, rfl, rfl, rfl, rfl, rfl, rfl, rfl, rfl, trivial⟩, E.o⟩ ?_;clear J E; clear a;rintro j a w13 ⟨ap, cpP, P, ⟨hPj, hj⟩, J, E⟩;replace E := Bx.mk E;have hPl : P.length = ls.length + j := by rw [hPj, length_append, List.length_replicate]
 revert a;refine xsq<|xsr<|xr 1 rfl<|xy rfl (vn 40 5 rfl)<|xy rfl (fun a J=>Qx rfl (J.ev rfl) (J.ev rfl) (by omega) (Qy (by omega) (by omega)))<|xr 1 rfl<|xne<|xcn 51 rfl (fun _ dcc2=>?_) fun _ dcc2=>?_
 refine xct rfl<|xsk<|xet<|xbl<|xrl<|xr 1 rfl<|xy rfl (vb z5 rfl) ?_;refine ybs PtrD.cells 40 5 [PtrD.zero] E ?_;clear E;intro b14 w14 E;refine yap Xe PtrD.cells_len E 1 (St.rdN E.o PtrD.cells_len 0 rfl) (Zx _) ?_;clear E;intro ao15 cp16 w15 E;refine xr 1 rfl<|xni<|xeb<|xet ?_;have hz17 : P.length + ([PtrD.zero]).length = (P ++ ([PtrD.zero])).length := by simp only [length_append, length_nil, length_cons]
 intro a J;rw [hz17] at E J;replace E:=E.pks [10,10,10,10,10,10,10,10,10,10];exact ⟨j + 1, ⟨_, _, _, ⟨by rw [hPj, List.append_assoc, Zmv], by omega⟩, J.less _ ⟨rfl, rfl, rfl, rfl, rfl, rfl, rfl, rfl, rfl, rfl, rfl, rfl, rfl, rfl, trivial⟩, (E.o.erase 10)⟩, (by omega)⟩;refine xcf rfl<|xex<|xtx<|xtx<|xbh<|xet<|xsq<|xsr<|xr 1 rfl<|xne<|xbl ?_;replace E := Bx.mk (E.o.nilRow PtrD.cells 5 40 (some ⟨b13, 0, none⟩));replace E:=E.pks [5,5,2,5];have hP : P = Xv ls := by rw [hPj]; unfold Xv; congr 2; omega
 have hP4 := VS ls; rw [← hP] at hP4;have hwl := Zmw (st := q1.d) (t := t) hA.lv1 (by omega) hdp2 hA.len;intro a J;refine Zs (ι := Nat) (fun i a w => ∃ (q2 : SQ) (an : Option Addr) (cn : Nat) (nx : List PtrD) (a5 : Option Addr) (c5 : Nat) (sy2 : List PtrD), (Zc6 q1 q2 P (Z9 q1.d t dp lv) lv (P.length / 4) i (YZ (lv : Int) (P.length / 4) P (Z9 q1.d t dp lv) q1.d [] sy) nx sy2 sy.length) ∧ Fr 145 a [(2, .slice aoL lvs.length cpL), (3, .int .i64 (many : Int)), (4, .pointer (some ⟨b1, 0, none⟩)), (5, .pointer (some ⟨b2, 0, none⟩)), (8, .pointer (some ⟨b3, 0, none⟩)), (9, .pointer (some ⟨b4, 0, none⟩)), (10, .bool false), (11, .int .i64 (dp : Int)), (12, .slice ao5 ((ZD q0.d t).length) cp5), (13, .slice ap P.length cpP), (15, .int .i64 (lv : Int)), (16, .slice ao12 ((Z9 q1.d t dp lv).length) cp12), (14, .slice a5 sy2.length c5), (17, .slice an nx.length cn), (18, .int .i64 (i : Int))] ∧ St w0 (SQ.asr q2 :: Zg PtrD.cells 5 40 (.slice an nx.length cn) nx :: Zg PtrD.cells 5 40 (.slice a5 sy2.length c5) sy2 :: boxA b1 8 39 (q2.u) :: Zg PtrD.cells 5 40 (.slice ap P.length cpP) P :: Zg PtrD.cells 5 40 (.slice ao12 ((Z9 q1.d t dp lv).length) cp12) (Z9 q1.d t dp lv) :: Zg PtrD.cells 5 40 (.slice ao5 ((ZD q0.d t).length) cp5) (ZD q0.d t) :: boxA b4 7 42 (az7) :: boxA b3 8 39 (az8) :: boxA b2 7 42 (tV t) :: Zg PtrD.cells 5 40 (.slice aoL lvs.length cpL) lvs :: F) w) (fun i => P.length / 4 - i) 0 ⟨q1, _, _, [], _, _, _, Zc6.start hA.ok, J.ls _, E.o⟩ ?_;clear J E; clear a;rintro i a w16 ⟨q2, an, cn, nx, a5, c5, sy2, hB, J, E⟩;replace E := Bx.mk E;have hnxl := hB.len; have hsy2 := hB.syl; have him := hB.im;revert a;refine xsq<|xsr<|xr 1 rfl<|xy rfl (fun a J=>Xm rfl (J.ev rfl) (J.ev rfl) (Yb (by omega)))<|xr 1 rfl<|xy rfl (vn 40 5 rfl)<|xr 1 rfl<|xne<|xcd 60 rfl (fun _ dcc3=>?_) fun _ dcc3=>?_
 have hcl : ((P.drop (i * 4)).take 4).length = 4 := by rw [length_take, List.length_drop]; omega
 have hco : ∀ p ∈ (P.drop (i * 4)).take 4, p.ok = true := fun p hp => ZnD hA.oks p (hP ▸ List.mem_of_mem_drop (List.mem_of_mem_take hp))
 have hlv2 : inB (lv : Int) 0 2 = true := XF (by omega) (by omega);obtain ⟨g18, rfl, _, _, _, _⟩ := E.o.rowOpen 4 rfl (by omega);obtain ⟨g19, rfl, _, _, _, _⟩ := E.o.rowOpen 5 rfl (by omega);have hcap := E.o.capLe 4 rfl;replace E:=E.pks [10,10,10,10,10,10,9,9,9,10,10];refine xct rfl<|xsk<|xet<|xsq<|xbl<|xsq ?_;intro a J;refine ZR (R := fun a w => ∃ (b20 : Nat) (b21 : Nat) (zr1 : ZeG) (zq1 : SQ), zr1 = Ya q2.d ((P.drop (i * 4)).take 4) (lv : Int) ((Z9 q1.d t dp lv).getD i PtrD.zero) ∧ zq1 = { q2 with d := zr1.st } ∧ Fr 145 a [(2, .slice aoL lvs.length cpL), (3, .int .i64 (many : Int)), (4, .pointer (some ⟨b1, 0, none⟩)), (5, .pointer (some ⟨b2, 0, none⟩)), (8, .pointer (some ⟨b3, 0, none⟩)), (9, .pointer (some ⟨b4, 0, none⟩)), (10, .bool false), (11, .int .i64 (dp : Int)), (12, .slice ao5 ((ZD q0.d t).length) cp5), (13, .slice (some ⟨g18, 0, none⟩) P.length cpP), (15, .int .i64 (lv : Int)), (16, .slice (some ⟨g19, 0, none⟩) ((Z9 q1.d t dp lv).length) cp12), (14, .slice a5 sy2.length c5), (17, .slice an nx.length cn), (18, .int .i64 (i : Int)), (56, .int .i64 (i : Int)), (57, .int .i64 ((i : Int) * 4)), (58, .slice (some ⟨g18, 0, none⟩) P.length cpP), (59, .int .i64 (P.length : Int)), (60, .bool true), (19, .pointer (some ⟨b20, 0, none⟩)), (20, .pointer (some ⟨b21, 0, none⟩)), (21, .bool zr1.ok)] ∧ St w0 (boxA b21 5 40 (pV zr1.p) :: boxA b20 8 39 (zq1.u) :: SQ.asr zq1 :: Zg PtrD.cells 5 40 (.slice (some ⟨g18, 0, none⟩) P.length cpP) P :: Zg PtrD.cells 5 40 (.slice an nx.length cn) nx :: Zg PtrD.cells 5 40 (.slice a5 sy2.length c5) sy2 :: boxA b1 8 39 (q2.u) :: Zg PtrD.cells 5 40 (.slice (some ⟨g19, 0, none⟩) ((Z9 q1.d t dp lv).length) cp12) (Z9 q1.d t dp lv) :: Zg PtrD.cells 5 40 (.slice ao5 ((ZD q0.d t).length) cp5) (ZD q0.d t) :: boxA b4 7 42 (az7) :: boxA b3 8 39 (az8) :: boxA b2 7 42 (tV t) :: Zg PtrD.cells 5 40 (.slice aoL lvs.length cpL) lvs :: F) w) ?_ ?_;revert a;refine hld [0] E ?_;clear E;intro w17 E M;refine Hw 0 3 8 E rfl rfl<|Hp 1 E rfl<|Hp 2 E rfl<|xhy 3 E.o rfl rfl (fun E a J=>Xm rfl (J.ev rfl) (J.ev rfl) (Yb (by omega)))<|Hp 4 E rfl<|xhy 5 E.o rfl rfl (fun E=>vad rfl)<|xhy 6 E.o rfl rfl (fun E a J=>Xm rfl (J.ev rfl) (J.ev rfl) (Yb (by omega)))<|xhy 7 E.o rfl rfl (fun E a J=>ZhD (e := 40) (size := 5) (k := i * 4) (j := 4) rfl (J.ev rfl) (J.ev rfl) (J.ev rfl) (by kernel_rfl) (by omega) (by omega) (by omega) (by omega))<|Hp 8 E rfl<|Hp 9 E rfl<|Hp 10 E rfl<|xhy 11 E.o rfl rfl (fun E=>vx 40 i 5 rfl)<|xhy 12 E.o rfl rfl (fun E a J=>ylr (cs := pL ((Z9 q1.d t dp lv).getD i PtrD.zero)) rfl (J.ev rfl) (E.elem PtrD.cells_len 4 rfl (Zh (xs := (Z9 q1.d t dp lv)) (j := i) (d := PtrD.zero) (by omega)))) ?_
 repeat' (first | (refine yo (i := 13) (Zmt w0 _ q2 g18 cpP (i * 4) (cpP - i * 4) P _ (lv : Int) ((Z9 q1.d t dp lv).getD i PtrD.zero) _ (by omega) rfl hcl hco (Zgs hroot _ (YD (by omega))) hlv2 hB.ok ((M.lk (Zg PtrD.cells 5 40 (.slice (some ⟨g18, 0, none⟩) P.length cpP) P)).lk (SQ.asr q2)).out) func231 ?_;rintro _ w19 ⟨zq1, zr1, hr1, hq1, rfl, hs1⟩;refine ⟨_, rfl, ?_⟩; replace M := Bx.mk hs1;clear hs1;replace M:=M.nm;replace E:=E.upd M;refine onb E.o ?_) | (refine yoa (i := 18) z8 E M ?_;clear E M;intro w20 b20 E M) | (refine yoa (i := 19) z5 E M ?_;clear E M;intro w21 b21 E M) | (refine YS (i := 20) M ?_;clear E M;intro w22 E M) | (refine YS (i := 21) M ?_;clear E M;intro w23 E M) | refine rdy 14<|Hp 14 E rfl ?_ | refine rdy 15<|Hp 15 E rfl ?_ | refine rdy 16<|Hp 16 E rfl ?_ | refine rdy 17<|Hp 17 E rfl ?_ | refine rdy 22<|Hp 22 E rfl ?_ | refine UZ 13 18 19 ?_ ?_ ?_ | refine YB 13 18 ?_ ?_ | refine Z0 13 ?_ | refine Z0 20 ?_ | refine Z0 21 ?_ | refine Z0 18 ?_ | refine YB 13 19 ?_ ?_ | refine Z0 19 ?_ | refine YB 18 19 ?_ ?_ | (refine gdn ?_;intro a J;exact ZE ⟨b20, b21, zr1, zq1, hr1, hq1, J.ls _, M.o.pmA⟩))
 clear J E a; rintro a w17 ⟨b20, b21, zr1, zq1, hr1, hq1, J, E⟩; replace E := Bx.mk E;revert a;refine xet<|xsq<|xsr<|xr 2 rfl<|xne<|xcs 82 rfl (fun cc4=>?_) fun cc4=>?_
 refine xct rfl<|xsr<|Xw 6 8 E rfl rfl<|xy rfl (vb z7 rfl) ?_;refine yst E 10 ?_;clear E;intro w18 E;replace E:=E.nm;refine yst E 9 ?_;clear E;intro w19 E;replace E:=E.nm;refine xr 1 rfl<|xne<|xre<|xtr<|xbr<|xtr<|xtr<|xbr<|xtr<|xbr<|xtr<|xtr<|xbr<|xtr ?_;intro a J;refine Zv J results173 (J.resBox rfl (E.o.box 10 rfl) (by kernel_rfl)) (J.resBox rfl (E.o.box 9 rfl) (by kernel_rfl)) (J.res rfl) ?_;obtain ⟨hf1, hf2⟩ := hB.fail (by omega) hr1 (by simpa using cc4);have hR := hA.stop (by omega) hP rfl hf2;have hz : zq1 = q2 := by rw [hq1, hf1]
 subst hz;have hT : Xy q0.d t lvs many = ⟨zq1.d, tree0, false⟩ := Zjt (by rw [hdp]; exact hR);replace E:=E.pks [12,3];refine ⟨zq1, _, hT.symm, rfl, fun _ => ⟨?_, hA.gr.trans hB.gr⟩, fun h => (nomatch h), rfl, (E.o.erS [12,11,10,9,8,7,6,5,4,3,2])⟩;have h1 := hB.hd; have h2 := hA.hd; rw [h1]; show SQ.mk .. = SQ.mk ..; rw [h2];refine xcf rfl<|xsk<|xet<|xsr<|Xw 1 8 E rfl rfl ?_;refine yst E 6 ?_;clear E;intro w20 E;replace E:=E.nm;refine xne<|xsq<|xsq ?_;intro a J;refine Yi (by kernel_rfl) (by kernel_rfl) E.o ?_;revert a;refine Qw 0 5 rfl rfl<|xqr 2 rfl<|xq rfl (fun E=>vx 40 i 5 rfl)<|xq rfl (fun E a J=>ylr (cs := pL ((Z9 q1.d t dp lv).getD i PtrD.zero)) rfl (J.ev rfl) (E.elem PtrD.cells_len 7 rfl (Zh (xs := (Z9 q1.d t dp lv)) (j := i) (d := PtrD.zero) (by omega))))<|xq rfl (fun E a J=>Zfy zr1.p ((Z9 q1.d t dp lv).getD i PtrD.zero) rfl (J.ev rfl) (J.ev rfl)) ?_;intro a J;refine wpQuiet_nil ?_; intro w21 E; replace E := Bx.mk E;revert a;refine xet<|xcs 91 rfl (fun cc5=>?_) fun cc5=>?_
 refine xct rfl<|xrl<|xr 1 rfl<|Xw 0 5 E rfl rfl ?_;refine ybs PtrD.cells 40 5 [zr1.p] E ?_;clear E;intro b60 w22 E;refine yap Xe PtrD.cells_len E 6 (St.rdN E.o PtrD.cells_len 0 rfl) (Zx _) ?_;clear E;intro ao61 cp62 w23 E;refine xr 1 rfl<|xne<|xrl<|xr 1 rfl<|Xw 1 5 E rfl rfl ?_;refine ybs PtrD.cells 40 5 [zr1.p] E ?_;clear E;intro b63 w24 E;refine yap Xe PtrD.cells_len E 6 (St.rdN E.o PtrD.cells_len 0 rfl) (Zx _) ?_;clear E;intro ao64 cp65 w25 E;refine xr 1 rfl<|xni<|xeb<|xet<|xrl<|xr 1 rfl<|xy rfl (vad rfl)<|xr 1 rfl<|xne ?_;have hz66 : nx.length + ([zr1.p]).length = (nx ++ ([zr1.p])).length := by simp only [length_append, length_nil, length_cons]
 intro a J;rw [hz66] at E J;have hz67 : sy2.length + ([zr1.p]).length = (sy2 ++ ([zr1.p])).length := by simp only [length_append, length_nil, length_cons]
 rw [hz67] at E J;have hB2 := hB.step (by omega) hr1 hq1 (by simpa using cc4) hcl hco hlv2 (Zgs hroot _ (YD (by omega)));rw [show QH sy2 zr1.p ((Z9 q1.d t dp lv).getD i PtrD.zero) = sy2 ++ [zr1.p] from if_pos (by rw [cc5])] at hB2;replace E:=E.pks [14,14,14,14,14,14,11,14,14,14,14];exact ⟨i + 1, ⟨_, _, _, _, _, _, _, hB2, J.ls _, (E.o.erS [14,13,12,11])⟩, (by omega)⟩;refine xcf rfl<|xsk<|xet<|xrl<|xr 1 rfl<|Xw 0 5 E rfl rfl ?_;refine ybs PtrD.cells 40 5 [zr1.p] E ?_;clear E;intro b68 w26 E;refine yap Xe PtrD.cells_len E 5 (St.rdN E.o PtrD.cells_len 0 rfl) (Zx _) ?_;clear E;intro ao69 cp70 w27 E;refine xr 1 rfl<|xni<|xeb<|xet<|xrl<|xr 1 rfl<|xy rfl (vad rfl)<|xr 1 rfl<|xne ?_;have hz71 : nx.length + ([zr1.p]).length = (nx ++ ([zr1.p])).length := by simp only [length_append, length_nil, length_cons]
 intro a J;rw [hz71] at E J;have hB2 := hB.step (by omega) hr1 hq1 (by simpa using cc4) hcl hco hlv2 (Zgs hroot _ (YD (by omega)));rw [show QH sy2 zr1.p ((Z9 q1.d t dp lv).getD i PtrD.zero) = sy2 from if_neg (by rw [cc5]; exact Bool.false_ne_true)] at hB2;replace E:=E.pks [13,13,13,13,13,13,10,13,13,13,13];exact ⟨i + 1, ⟨_, _, _, _, _, _, _, hB2, J.ls _, (E.o.erS [13,12,11])⟩, (by omega)⟩;refine xcf rfl<|xex<|xtx<|xtx<|xbh<|xet<|xrl<|xr 2 rfl<|xni<|xeb<|xet<|xrl<|xr 1 rfl<|xy rfl (vad rfl)<|xr 1 rfl<|xne ?_;replace E:=E.pks [10,10,10,10,10,8,8,8,8];intro a J;exact ⟨lv + 1, ⟨_, _, _, _, _, _, _, hA.next hdp2 (by omega) hP rfl hB (by omega), J.less _ ⟨rfl, rfl, rfl, rfl, rfl, rfl, rfl, rfl, rfl, rfl, rfl, rfl, trivial⟩, (E.o.erS [10,9])⟩, (by omega)⟩;refine xcf rfl<|xex<|xtx<|xtx<|xbh<|xet<|xsq<|xsr<|xr 1 rfl<|xne<|xbl ?_;have hin5 := (Za3 (st := q0.d) hroot).1;replace E:=E.pks [3,1];intro a J;refine Zs (ι := Nat) (fun i a w => ∃ (q3 : SQ), (i ≤ (ZD q0.d t).length ∧ Vj sy ((ZD q0.d t).drop i) q3.d = Vj sy (ZD q0.d t) q1.d ∧ Up i q3.d) ∧ Fr 145 a [(2, .slice aoL lvs.length cpL), (3, .int .i64 (many : Int)), (4, .pointer (some ⟨b1, 0, none⟩)), (5, .pointer (some ⟨b2, 0, none⟩)), (8, .pointer (some ⟨b3, 0, none⟩)), (9, .pointer (some ⟨b4, 0, none⟩)), (10, .bool false), (11, .int .i64 (dp : Int)), (12, .slice ao5 ((ZD q0.d t).length) cp5), (13, .slice ao ls.length cp), (14, .slice aS sy.length cs), (22, .int .i64 (i : Int))] ∧ St w0 (SQ.asr q3 :: boxA b1 8 39 (q3.u) :: Zg PtrD.cells 5 40 (.slice ao ls.length cp) ls :: Zg PtrD.cells 5 40 (.slice aS sy.length cs) sy :: Zg PtrD.cells 5 40 (.slice ao5 ((ZD q0.d t).length) cp5) (ZD q0.d t) :: boxA b4 7 42 (az7) :: boxA b3 8 39 (az8) :: boxA b2 7 42 (tV t) :: Zg PtrD.cells 5 40 (.slice aoL lvs.length cpL) lvs :: F) w) (fun i => (ZD q0.d t).length - i) 0 ⟨q1, ⟨Nat.zero_le _, by rw [List.drop_zero], QI hA.ok⟩, J.less _ ⟨rfl, rfl, rfl, rfl, rfl, rfl, rfl, rfl, rfl, rfl, rfl, rfl, trivial⟩, E.o⟩ ?_;clear J E; clear a;rintro i a w28 ⟨q3, ⟨hi, hfr, hW⟩, J, E⟩;replace E := Bx.mk E;revert a;refine xsq<|xsr<|xr 2 rfl<|xy rfl (vn 40 5 rfl)<|xr 1 rfl<|xne<|xcd 104 rfl (fun _ dcc6=>?_) fun _ dcc6=>?_
 refine xct rfl<|xsk<|xet<|xsq<|xbl<|xsr<|xr 1 rfl<|xne<|xsq<|xsr<|xr 1 rfl<|xne<|xbl ?_;intro a J;refine Zs (ι := Nat) (fun k a w => (k ≤ sy.length) ∧ Fr 145 a [(2, .slice aoL lvs.length cpL), (3, .int .i64 (many : Int)), (4, .pointer (some ⟨b1, 0, none⟩)), (5, .pointer (some ⟨b2, 0, none⟩)), (8, .pointer (some ⟨b3, 0, none⟩)), (9, .pointer (some ⟨b4, 0, none⟩)), (10, .bool false), (11, .int .i64 (dp : Int)), (12, .slice ao5 ((ZD q0.d t).length) cp5), (13, .slice ao ls.length cp), (14, .slice aS sy.length cs), (22, .int .i64 (i : Int)), (23, .bool (Q0 (sy.take k) ((ZD q0.d t).getD i PtrD.zero))), (24, .int .i64 (k : Int))] ∧ St w0 (SQ.asr q3 :: boxA b1 8 39 (q3.u) :: Zg PtrD.cells 5 40 (.slice ao ls.length cp) ls :: Zg PtrD.cells 5 40 (.slice aS sy.length cs) sy :: Zg PtrD.cells 5 40 (.slice ao5 ((ZD q0.d t).length) cp5) (ZD q0.d t) :: boxA b4 7 42 (az7) :: boxA b3 8 39 (az8) :: boxA b2 7 42 (tV t) :: Zg PtrD.cells 5 40 (.slice aoL lvs.length cpL) lvs :: F) w) (fun k => sy.length - k) 0 ⟨Nat.zero_le _, J.ls _, E.o⟩ ?_;clear J E; clear a;rintro k a w29 ⟨hk4, J, E⟩;replace E := Bx.mk E;revert a;refine xsq<|xsr<|xr 2 rfl<|xy rfl (vn 40 5 rfl)<|xr 1 rfl<|xne<|xcd 110 rfl (fun _ dcc7=>?_) fun _ dcc7=>?_
 refine xct rfl<|xsk<|xet<|xsq<|xbl ?_;obtain ⟨g72, rfl, _, _, _, _⟩ := E.o.rowOpen 3 rfl (by omega);obtain ⟨g73, rfl, _, _, _, _⟩ := E.o.rowOpen 4 rfl (by omega);intro a J;refine Yi (by kernel_rfl) (by kernel_rfl) E.o ?_;revert a;refine xqr 2 rfl<|xcs 114 rfl (fun cc8=>?_) fun cc8=>?_
 refine xqr 11 rfl ?_;intro a J;refine wpQuiet_nil ?_; intro w30 E; replace E := Bx.mk E;revert a;refine xeb<|xet<|xrl<|xr 1 rfl<|xy rfl (vad rfl)<|xr 1 rfl<|xne ?_;have hks := Zeg (x := ((ZD q0.d t).getD i PtrD.zero)) (show k < sy.length by omega); rw [cc8] at hks; simp only [Bool.true_or] at hks;intro a J;exact ⟨k + 1, ⟨(by omega), J.less _ ⟨rfl, rfl, rfl, rfl, rfl, rfl, rfl, rfl, rfl, rfl, rfl, rfl, (congrArg (fun z => some (Value.bool z)) hks.symm), rfl, trivial⟩, E.o⟩, (by omega)⟩;refine xqr 2 rfl<|xq rfl (fun E=>vx 40 k 5 rfl)<|xq rfl (fun E a J=>ylr (cs := pL (sy.getD k PtrD.zero)) rfl (J.ev rfl) (E.elem PtrD.cells_len 3 rfl (Zh (xs := sy) (j := k) (d := PtrD.zero) (by omega))))<|xqr 2 rfl<|xq rfl (fun E=>vx 40 i 5 rfl)<|xq rfl (fun E a J=>ylr (cs := pL ((ZD q0.d t).getD i PtrD.zero)) rfl (J.ev rfl) (E.elem PtrD.cells_len 4 rfl (Zh (xs := (ZD q0.d t)) (j := i) (d := PtrD.zero) (by omega))))<|xq rfl (fun E a J=>Zfy (sy.getD k PtrD.zero) ((ZD q0.d t).getD i PtrD.zero) rfl (J.ev rfl) (J.ev rfl))<|xqr 2 rfl ?_;intro a J;refine wpQuiet_nil ?_; intro w31 E; replace E := Bx.mk E;revert a;refine xeb<|xet<|xrl<|xr 1 rfl<|xy rfl (vad rfl)<|xr 1 rfl<|xne ?_;have hks := Zeg (x := ((ZD q0.d t).getD i PtrD.zero)) (show k < sy.length by omega); rw [cc8] at hks; simp only [Bool.false_or] at hks;intro a J;exact ⟨k + 1, ⟨(by omega), J.less _ ⟨rfl, rfl, rfl, rfl, rfl, rfl, rfl, rfl, rfl, rfl, rfl, rfl, (congrArg (fun z => some (Value.bool z)) hks.symm), rfl, trivial⟩, E.o⟩, (by omega)⟩;refine xcf rfl<|xex<|xtx<|xtx<|xbh<|xet<|xsq ?_;intro a J;have hkt : sy.take k = sy := List.take_of_length_le (by omega); rw [hkt] at J;revert a;refine xrl<|xr 2 rfl<|xne<|xcs 126 rfl (fun cc9=>?_) fun cc9=>?_
 refine xct rfl ?_;obtain ⟨g74, rfl, _, _, _, _⟩ := E.o.rowOpen 4 rfl (by omega);refine hld [1,0] E ?_;clear E;intro w32 E M;refine Hp 1 E rfl<|Hp 2 E rfl<|xhy 3 E.o rfl rfl (fun E=>vx 40 i 5 rfl)<|xhy 4 E.o rfl rfl (fun E a J=>ylr (cs := pL ((ZD q0.d t).getD i PtrD.zero)) rfl (J.ev rfl) (E.elem PtrD.cells_len 2 rfl (Zh (xs := (ZD q0.d t)) (j := i) (d := PtrD.zero) (by omega)))) ?_;refine Zo 0 ?_;refine yoy E (fun a J=>ylr (cs := q3.l) rfl (J.ev rfl) ((M.o.box 1 rfl).sub 0 8)) ?_;refine Zo 5 ?_;intro a J;replace M:=M.pks [0];revert a;refine yo (Jr w0 _ q3 ((ZD q0.d t).getD i PtrD.zero) i _ ((Za3 hroot).2 _ (YD (by omega))) hW (by omega) M.o) func174 ?_;rintro _ w35 ⟨zq3, hq3, rfl, hs1⟩;refine ⟨_, rfl, ?_⟩; replace M := Bx.mk hs1;clear hs1;intro a J;replace M:=M.nm;clear E;have E:=M.ers [1,0];refine ⟨E.o, ?_⟩;revert a;refine Zo 6 ?_;refine yos 1 [1,0] M ?_;clear E M;intro w36 E M;refine hdn ?_;replace E := M; clear M;refine xeb<|xet<|xrl<|xr 1 rfl<|xy rfl (vad rfl)<|xr 1 rfl<|xne ?_;have hk9 : Q0 sy ((ZD q0.d t).getD i PtrD.zero) = false := by simpa using cc9
 have hst := Zeh (sy := sy) (s := q3.d) (show i < (ZD q0.d t).length by omega); rw [hk9] at hst;rw [if_neg Bool.false_ne_true, ← hq3] at hst;intro a J;exact ⟨i + 1, ⟨_, ⟨by omega, hst.symm.trans hfr, hq3 ▸ hW.free ((Za3 hroot).2 _ (YD (by omega)))⟩, J.less _ ⟨rfl, rfl, rfl, rfl, rfl, rfl, rfl, rfl, rfl, rfl, rfl, rfl, trivial⟩, E.o⟩, (by omega)⟩;refine xcf rfl<|xsk<|xeb<|xet<|xrl<|xr 1 rfl<|xy rfl (vad rfl)<|xr 1 rfl<|xne ?_;have hk9 : Q0 sy ((ZD q0.d t).getD i PtrD.zero) = true := by simpa using cc9
 have hst := Zeh (sy := sy) (s := q3.d) (show i < (ZD q0.d t).length by omega); rw [hk9] at hst;intro a J;exact ⟨i + 1, ⟨_, ⟨by omega, hst.symm.trans hfr, hW.more (by omega)⟩, J.less _ ⟨rfl, rfl, rfl, rfl, rfl, rfl, rfl, rfl, rfl, rfl, rfl, rfl, trivial⟩, E.o⟩, (by omega)⟩;refine xcf rfl<|xex<|xtx<|xtx<|xbh<|xet<|xsr<|xy rfl (vb z5 rfl) ?_;refine yal z5 E ?_;clear E;intro w37 b75 E;refine yst E 0 ?_;clear E;intro w38 E;replace E:=E.nm;refine xne<|xsq<|xsr<|xr 1 rfl<|xy rfl (vn 40 5 rfl)<|xr 1 rfl<|xne<|xcd 136 rfl (fun _ dcc10=>?_) fun _ dcc10=>?_;refine xct rfl ?_;obtain ⟨g76, rfl, _, _, _, _⟩ := E.o.rowOpen 3 rfl (by omega);refine xrl<|xr 1 rfl<|xy rfl (vx 40 0 5 rfl)<|xy rfl (fun a J=>ylr (cs := pL (ls.getD 0 PtrD.zero)) rfl (J.ev rfl) (E.o.elem PtrD.cells_len 3 rfl (Zh (xs := ls) (j := 0) (d := PtrD.zero) (by omega)))) ?_;refine yst E 0 ?_;clear E;intro w39 E;replace E:=E.nm;refine xne<|xsq ?_;refine hld [7,6] E ?_;clear E;intro w40 E M;refine Hw 0 2 8 E rfl rfl<|Hw 1 0 5 E rfl rfl<|Hp 2 E rfl<|Hp 3 E rfl<|xhy 4 E.o rfl rfl (fun E=>vb [.int .i64 ((ls.getD 0 PtrD.zero).aB), .int .i64 ((ls.getD 0 PtrD.zero).aj), .int .i64 ((ls.getD 0 PtrD.zero).av), .int .i64 ((ls.getD 0 PtrD.zero).aC), .int .i64 ((ls.getD 0 PtrD.zero).aq), .int .i64 (dp : Int), .int .i64 (many : Int)] rfl) ?_;refine Zo 5 ?_;refine yos 7 [7,6] M ?_;clear E M;intro w41 E M;refine Zo 6 ?_;refine yos 6 [7,6] M ?_;clear E M;intro w42 E M;refine Hp 7 E rfl ?_;refine hdn ?_;replace E := M; clear M;refine xet<|xre ?_;intro a J;refine Zv J results173 (J.resBox rfl (E.o.box 7 rfl) (by kernel_rfl)) (J.resBox rfl (E.o.box 6 rfl) (by kernel_rfl)) (J.res rfl) ?_;have hT : Xy q0.d t lvs many = ⟨q3.d, ⟨ls.headD PtrD.zero, (dp : Nat), many⟩, true⟩ := by rw [Zeb (by rw [hdp]; exact hA.done (by omega)), hdp]; rw [← hfr, List.drop_of_length_le (by omega)]; rfl
 replace E:=E.pks [9,2];have hh9 : ls.headD PtrD.zero = ls.getD 0 PtrD.zero := by cases ls <;> rfl
 exact ⟨q3, _, hT.symm, rfl, fun h => (nomatch h), fun _ => hW.more (by omega), by dsimp only [SQ.u]; rw [hh9] <;> rfl, (E.o.erS [9,8,7,6,5,4,3,2])⟩;refine xcf rfl<|xsk<|xet<|xsq ?_;refine hld [7,6] E ?_;clear E;intro w43 E M;refine Hw 0 2 8 E rfl rfl<|Hw 1 0 5 E rfl rfl<|Hp 2 E rfl<|Hp 3 E rfl<|xhy 4 E.o rfl rfl (fun E=>vb [.int .i64 0, .int .i64 0, .int .i64 0, .int .i64 0, .int .i64 0, .int .i64 (dp : Int), .int .i64 (many : Int)] rfl) ?_;refine Zo 5 ?_;refine yos 7 [7,6] M ?_;clear E M;intro w44 E M;refine Zo 6 ?_;refine yos 6 [7,6] M ?_;clear E M;intro w45 E M;refine Hp 7 E rfl ?_;refine hdn ?_;replace E := M; clear M;refine xet<|xre ?_;intro a J;refine Zv J results173 (J.resBox rfl (E.o.box 7 rfl) (by kernel_rfl)) (J.resBox rfl (E.o.box 6 rfl) (by kernel_rfl)) (J.res rfl) ?_;have hT : Xy q0.d t lvs many = ⟨q3.d, ⟨ls.headD PtrD.zero, (dp : Nat), many⟩, true⟩ := by rw [Zeb (by rw [hdp]; exact hA.done (by omega)), hdp]; rw [← hfr, List.drop_of_length_le (by omega)]; rfl
 replace E:=E.pks [9,2];have hh9 : ls.headD PtrD.zero = PtrD.zero := by rw [List.eq_nil_of_length_eq_zero (l := ls) (by omega)]; rfl
 exact ⟨q3, _, hT.symm, rfl, fun h => (nomatch h), fun _ => hW.more (by omega), by dsimp only [SQ.u]; rw [hh9] <;> rfl, (E.o.erS [9,8,7,6,5,4,3,2])⟩
theorem ZnG {P : Program} {o : Oper} {a : Act} {w : World} {x y : Operand} {tt : Array TypeId} {m n r : Int} (h : max m n = r) (ho : o.op = .call { callee := .builtin .max, args := #[x, y], argTypes := tt }) {k : IntKind} (hx : a.eval x = .int k m) (hy : a.eval y = .int k n) : Yl P w o a (.int k r) := h ▸ ZfP ho hx hy
theorem Zmx {st : Za} {text : ByteArray} {level : Int} {i : Nat} (hok : st.ok = true) (hi : i < 64) (hw : writeAt st text level = i) {p : PtrD} (hp : p.ok = true) (hh : p.hole = false) (hr : XB st p = true) : Yj (st.putAt i (st.ac.set i text)) p = Yj st p := by
 obtain ⟨_, hrow⟩ := Zfc hok hi hw;have hO := Za.ok_spec hok;obtain ⟨j, h8, hj, e⟩ := ZaV hp hh;rw [QD hh, Ud e] at hr;rw [Ud e, Ud e];show (st.ac.set i text).getD j _ = _;rw [XL (by rw [hO.rows]; exact hi)]
 split
 ·rename_i ej
  subst ej;rcases hrow with ⟨h0, _⟩ | ⟨_, h1, _⟩
  ·have h2 := (QR.1 hO.each i hi).2.1.2 h0
   unfold X3 at hr;simp only [Bool.and_eq_true, beq_iff_eq] at hr;unfold PtrD.ok at hp;rw [hh, Bool.false_or] at hp;simp only [Bool.and_eq_true] at hp;have h3 := Zu hp.1.1.2
   omega
  ·exact h1.symm
 ·rfl
theorem ZkA {st st' : Za} {p : PtrD} {n : Int} (ht : st'.ar = st.ar) (h : p.hole = false → Yj st' p = Yj st p) : kidsS st' p n = kidsS st p n := by unfold kidsS; rw [ZbE h, ht]
theorem ZiE {st : Za} {p : PtrD} {n : Int} {l : List PtrD} (hh : p.hole = false) (h : kidsS st p n = some l) : p.ok = true ∧ XB st p = true := by
 obtain ⟨hk, ho⟩ := Uw h;rcases (QE hk).2.2 with ⟨e, _⟩ | ⟨_, _, hr, _⟩
 ·rw [hh] at e; cases e
 ·exact ⟨(ho hh).1, hr⟩
theorem ZkB {st : Za} {text : ByteArray} {level : Int} (hok : st.ok = true) {p : PtrD} {n : Int} (hh : p.hole = false) (h : kidsS st p n ≠ none) : kidsS (Yu st text level).st p n ≠ none := by
 cases hk : kidsS st p n with
 | none => exact absurd hk h
 | some l =>
  obtain ⟨ho, hr⟩ := ZiE hh hk
  by_cases hi : writeAt st text level < 64
  ·rw [JV hi rfl]
   rw [ZkA (st := st) (st' := st.putAt (writeAt st text level) (st.ac.set (writeAt st text level) text)) rfl fun _ => Zmx hok hi rfl ho hh hr, hk]; simp
  ·rw [UI (by have := JT st text level; omega)]; rw [hk]; simp
theorem TreeX.kid {st : Za} {t : Zd} {x l : List PtrD} (X : TreeX st t x l) : t.aw = 2 → t.af.hole = false → kidsS st t.af 2 ≠ none := fun hd _ e => by
 have h := X.dn;have h2 : depthN t.ah = 2 := by have := X.dep; omega
 rw [h2] at h;rw [JJ (VE e)] at h; cases h
theorem TreeX.root {st : Za} {t : Zd} {x l : List PtrD} (X : TreeX st t x l) : t.af.ok = true := by
 obtain ⟨x, ht, _⟩ := ZaO X.lv;unfold topB at ht;simp only [Bool.and_eq_true] at ht;exact ht.2.2.1
theorem ZiF {l : List PtrD} {k : Nat} {p : PtrD} (h : ∀ q ∈ l, q.ok = true) (hp : p.ok = true) : ∀ q ∈ l.set k p, q.ok = true := fun q hq => by
 rcases List.mem_or_eq_of_mem_set hq with hq | rfl
 ·exact h q hq
 ·exact hp
theorem Zaj {s : ByteArray} (h : (s.toList == ByteArray.empty.toList) = true) : s.size = 0 := by rw [XY h]; rfl
theorem JW {s : ByteArray} (h : (s.toList == ByteArray.empty.toList) = false) : s.size ≠ 0 := fun e => by
 have : s = ByteArray.empty := ByteArray.ext (Array.eq_empty_of_size_eq_zero e);rw [this] at h; simp at h
theorem UM (w0 w : World) (q0 : SQ) (t : Zd) {x l : List PtrD} (X : TreeX q0.d t x l) (k : Nat) (hk : k < 16) (text : ByteArray) (htl : text.size ≤ 128) (F : List Asr) (hq : q0.d.ok = true) (hS : St w0 (q0.asr :: F) w) : Calls prog 103 #[q0.u, tV t, .int .i64 (k : Int), .string text] w fun e w' => ∃ (q' : SQ) (r : JU), r = Y9 q0.d t x k text ∧ q'.d = r.st ∧ (r.ok = false → q' = { q0 with d := r.st } ∧ Ja q0.d r.st) ∧ (r.ok = true → Up 6 q'.d) ∧ e = .returned (.tuple #[q'.u, tV r.t, .bool r.ok]) ∧ St w0 (q'.asr :: F) w' := by
 have hrow0 := Xa hq; have hwl := Uz X.x16; have hwo := ZbC X.xok; have hmm := X.many;obtain ⟨old, hold⟩ : ∃ o, (Zn x).getD k PtrD.zero = o := ⟨_, rfl⟩;have hgo : (Zn x)[k]? = some old := by rw [← hold]; exact Zh (by omega)
 have hoo : old.ok = true := hwo _ (hold ▸ YD (by omega));obtain ⟨many, hmx⟩ : ∃ m : Nat, max t.ah ((k : Int) + 1) = (m : Int) := ⟨(max t.ah ((k : Int) + 1)).toNat, by omega⟩;have hm16 : many ≤ 16 := by omega
 have E := Bx.mk hS; clear hS;refine ent func103 ntmps103 ?_;refine xsr ?_;refine ybx E ?_;clear E;intro w1 b1 E;refine ybx E ?_;clear E;intro w2 b2 E;refine yal z8 E ?_;clear E;intro w3 b3 E;refine yal z7 E ?_;clear E;intro w4 b4 E;refine xr 1 rfl<|xne<|xsr<|Xw 3 8 E rfl rfl<|Xw 2 7 E rfl rfl ?_;refine yc (U4 q0.a0 q0.c0 q0.a1 q0.c1 q0.a2 q0.c2 q0.a4 q0.c4 q0.a6 q0.c6 q0.d t X.dn X.dep X.x16 _ (E.o.sqRd 4 rfl) hrow0) func171 ?_;rintro _ w5 ⟨ao5, cp5, rfl, hs⟩;refine ⟨_, rfl, ?_⟩;replace E := E.ad hs;clear hs;refine xr 1 rfl<|xne<|xsq ?_;obtain ⟨g6, rfl, _, _, _, _⟩ := E.o.rowOpen 0 rfl (by omega);refine xrl<|xr 2 rfl<|xy rfl (vx 40 k 5 rfl)<|xy rfl (fun a J=>ylr (cs := pL old) rfl (J.ev rfl) (E.o.elem PtrD.cells_len 0 rfl hgo)) ?_;refine yal z5 E ?_;clear E;intro w6 b7 E;refine yst E 0 ?_;clear E;intro w7 E;replace E:=E.nm;refine xne<|xsr<|Xw 5 8 E rfl rfl<|Xw 0 5 E rfl rfl ?_;refine ycB (JM q0.a0 q0.c0 q0.a1 q0.c1 q0.a2 q0.c2 q0.a4 q0.c4 q0.a6 q0.c6 q0.d old _ (E.o.sqRd 6 rfl) hrow0 hoo) func102 E ?_;clear E;intro w8 E;refine xr 5 rfl<|xne<|xsr<|Xf 6 rfl<|Xl 4 E rfl rfl<|xr 1 rfl<|xy rfl (vad rfl)<|xy rfl (fun a J=>ZnG hmx rfl (J.ev rfl) (J.ev rfl))<|xr 1 rfl<|xne<|xsq<|xsr<|xr 2 rfl<|xy rfl (fun a J=>Yq rfl (J.ev rfl) (J.ev rfl))<|xr 1 rfl<|xcs 42 rfl (fun cc1=>?_) fun cc1=>?_;have htxcc1 : ((Zm q0.d old).toList == text.toList) = true := by simpa using cc1
 refine xr 1 rfl<|Xf 6 rfl<|Xl 4 E rfl rfl<|xr 2 rfl<|xne<|xce 47 rfl (fun _ dcc2=>?_) fun _ dcc2=>?_;refine xct rfl<|xsq ?_;refine hld [3,2] E ?_;clear E;intro w9 E M;refine Hw 0 3 8 E rfl rfl<|Hw 1 2 7 E rfl rfl ?_;refine Zo 2 ?_;refine yos 3 [3,2] M ?_;clear E M;intro w10 E M;refine Zo 3 ?_;refine yos 2 [3,2] M ?_;clear E M;intro w11 E M;refine Hp 4 E rfl ?_;refine hdn ?_;replace E := M; clear M;refine xet<|xre<|xtr ?_;intro a J;refine Zv J results103 (J.resBox rfl (E.o.box 3 rfl) (by kernel_rfl)) (J.resBox rfl (E.o.box 2 rfl) (by kernel_rfl)) (J.res rfl) ?_;replace E:=E.pks [6];have hT := Zec (k := k) hold htxcc1 (hmx.trans (by omega));exact ⟨q0, _, hT.symm, rfl, fun h => (nomatch h), fun _ => (QI hq).more (by omega), rfl, (E.o.erS [6,5,4,3,2,1])⟩;refine xcf rfl<|xsk<|xet<|xsr<|Xw 0 5 E rfl rfl ?_;refine yal z5 E ?_;clear E;intro w12 b8 E;refine yst E 0 ?_;clear E;intro w13 E;replace E:=E.nm;refine xne<|xsq<|xsr<|xr 2 rfl<|xy rfl (fun a J=>Xn rfl (J.ev rfl) (J.ev rfl))<|xne<|xcs 53 rfl (fun cc3=>?_) fun cc3=>?_;rw [htxcc1] at cc3; simp at cc3;have htxcc3 : ((Zm q0.d old).toList == text.toList) = true := by simpa using cc3
 refine xcf rfl<|xsk<|xet<|xsr<|xr 2 rfl<|Xw 0 5 E rfl rfl<|xy rfl (vx 40 k 5 rfl) ?_;intro a J;refine ZaC PtrD.cells_len rfl rfl rfl (J.ev rfl) (J.ev rfl) (by kernel_rfl) E.o 2 rfl (by omega) (z := old) rfl (by first | rfl | simp [Value.oneCell']) ?_; clear E; intro w14 E; replace E := Bx.mk E;revert a;refine xne<|xsr<|Xw 6 8 E rfl rfl<|Xw 5 7 E rfl rfl<|xr 2 rfl ?_;have hsl : ((Zn x).set k old).length = 16 := by rw [length_set]; exact hwl
 have hzl : (Zn x).length = ((Zn x).set k old).length := (length_set ..).symm;intro a J;rw [hzl] at E J;replace E:=E.nm;replace E:=E.pks [2,7];revert a;refine yc (ZbR w0 _ q0 t _ _ ((Zn x).set k old) many (depthN (many : Int)) _ rfl hsl (ZiF hwo hoo) (by omega) hq X.root X.kid E.o) func173 ?_;rintro _ w15 ⟨zq2, zr2, hr2, hq2, hf2, hW2, rfl, hs1⟩;refine ⟨_, rfl, ?_⟩; replace E := Bx.mk hs1;clear hs1;refine xr 4 rfl ?_;refine yst E 7 ?_;clear E;intro w16 E;replace E:=E.nm;refine yst E 6 ?_;clear E;intro w17 E;replace E:=E.nm;refine xr 1 rfl<|xne<|xsq<|xsr<|xr 2 rfl<|xne<|xcs 84 rfl (fun cc4=>?_) fun cc4=>?_;have hok2 : zr2.ok = false := by simpa using cc4
 refine xct rfl<|xsq ?_;refine hld [5,4] E ?_;clear E;intro w18 E M;refine Hw 0 5 8 E rfl rfl<|Hw 1 4 7 E rfl rfl ?_;refine Zo 2 ?_;refine yos 5 [5,4] M ?_;clear E M;intro w19 E M;refine Zo 3 ?_;refine yos 4 [5,4] M ?_;clear E M;intro w20 E M;refine Hp 4 E rfl ?_;refine hdn ?_;replace E := M; clear M;refine xet<|xre<|xtr ?_;intro a J;refine Zv J results103 (J.resBox rfl (E.o.box 5 rfl) (by kernel_rfl)) (J.resBox rfl (E.o.box 4 rfl) (by kernel_rfl)) (J.res rfl) ?_;replace E:=E.pks [0];have hne : ¬ (((Zm q0.d old).toList == text.toList) = true ∧ (many : Int) = t.ah) := fun h9 => by exact absurd h9.2 (by omega)
 have hT := X6 hold hmx hne (UJ htxcc3); rw [← hr2, hok2] at hT;rw [if_neg Bool.false_ne_true] at hT;exact ⟨zq2, zr2, hT.symm, hq2, fun _ => hf2 hok2, fun h => by (rw [hok2] at h; cases h), by rw [hok2], (E.o.erS [7,6,5,4,3,2,1])⟩;have hok2 : zr2.ok = true := by simpa using cc4
 refine xcf rfl<|xsk<|xet<|xsq<|xsr<|Xw 2 5 E rfl rfl<|Xw 3 5 E rfl rfl<|xy rfl (fun a J=>Zcj old old rfl (J.ev rfl) (J.ev rfl))<|xne<|xcs 89 rfl (fun cc5=>?_) fun cc5=>?_;have heq : (old).eqv old = false := by simpa using cc5
 refine xct rfl<|xrl<|Xw 7 8 E rfl rfl<|Xw 3 5 E rfl rfl ?_;replace E:=E.pks [0];refine yc (Jr w0 _ zq2 old 5 _ hoo (hW2 hok2) (by omega) E.o) func174 ?_;rintro _ w21 ⟨zq3, hq3, rfl, hs1⟩;refine ⟨_, rfl, ?_⟩; replace E := Bx.mk hs1;clear hs1;refine yst E 7 ?_;clear E;intro w22 E;replace E:=E.nm;refine xne<|xsq ?_;refine hld [5,4] E ?_;clear E;intro w23 E M;refine Hw 0 5 8 E rfl rfl<|Hw 1 4 7 E rfl rfl ?_;refine Zo 2 ?_;refine yos 5 [5,4] M ?_;clear E M;intro w24 E M;refine Zo 3 ?_;refine yos 4 [5,4] M ?_;clear E M;intro w25 E M;refine Hp 4 E rfl ?_;refine hdn ?_;replace E := M; clear M;refine xet<|xre ?_;intro a J;refine Zv J results103 (J.resBox rfl (E.o.box 5 rfl) (by kernel_rfl)) (J.resBox rfl (E.o.box 4 rfl) (by kernel_rfl)) (J.res rfl) ?_;replace E:=E.pks [0];have hne : ¬ (((Zm q0.d old).toList == text.toList) = true ∧ (many : Int) = t.ah) := fun h9 => by exact absurd h9.2 (by omega)
 have hT := X6 hold hmx hne (UJ htxcc3); rw [← hr2, hok2] at hT;rw [if_pos rfl, heq] at hT;rw [if_neg Bool.false_ne_true] at hT;exact ⟨zq3, _, hT.symm, by rw [hq3, hq2], fun h => (nomatch h), fun _ => hq3 ▸ (hW2 hok2).free hoo, rfl, (E.o.erS [7,6,5,4,3,2,1])⟩;have heq : (old).eqv old = true := by simpa using cc5
 refine xcf rfl<|xsk<|xet<|xsq ?_;refine hld [5,4] E ?_;clear E;intro w26 E M;refine Hw 0 5 8 E rfl rfl<|Hw 1 4 7 E rfl rfl ?_;refine Zo 2 ?_;refine yos 5 [5,4] M ?_;clear E M;intro w27 E M;refine Zo 3 ?_;refine yos 4 [5,4] M ?_;clear E M;intro w28 E M;refine Hp 4 E rfl ?_;refine hdn ?_;replace E := M; clear M;refine xet<|xre ?_;intro a J;refine Zv J results103 (J.resBox rfl (E.o.box 5 rfl) (by kernel_rfl)) (J.resBox rfl (E.o.box 4 rfl) (by kernel_rfl)) (J.res rfl) ?_;replace E:=E.pks [0];have hne : ¬ (((Zm q0.d old).toList == text.toList) = true ∧ (many : Int) = t.ah) := fun h9 => by exact absurd h9.2 (by omega)
 have hT := X6 hold hmx hne (UJ htxcc3); rw [← hr2, hok2] at hT;rw [if_pos rfl, heq] at hT;rw [if_pos rfl] at hT;exact ⟨zq2, _, hT.symm, hq2, fun h => (nomatch h), fun _ => (hW2 hok2).more (by omega), rfl, (E.o.erS [7,6,5,4,3,2,1])⟩;have htxcc1 : ((Zm q0.d old).toList == text.toList) = false := by simpa using cc1
 refine xr 5 rfl<|xne<|xcf rfl<|xsk<|xet<|xsr<|Xw 0 5 E rfl rfl ?_;refine yal z5 E ?_;clear E;intro w29 b9 E;refine yst E 0 ?_;clear E;intro w30 E;replace E:=E.nm;refine xne<|xsq<|xsr<|xr 2 rfl<|xy rfl (fun a J=>Xn rfl (J.ev rfl) (J.ev rfl))<|xne<|xcs 53 rfl (fun cc6=>?_) fun cc6=>?_;have htxcc6 : ((Zm q0.d old).toList == text.toList) = false := by simpa using cc6
 refine xct rfl<|xsr<|xy rfl (vb z5 rfl) ?_;refine yst E 0 ?_;clear E;intro w31 E;replace E:=E.nm;refine xne<|xsr<|xr 1 rfl<|xy rfl (fun a J=>Xn rfl (J.ev rfl) (J.ev rfl))<|xne<|xcs 56 rfl (fun cc7=>?_) fun cc7=>?_;have hte : (text.toList == ByteArray.empty.toList) = false := by simpa using cc7
 have htz : inB (text.size : Int) 1 128 = true := XF (by have := JW hte; omega) (by omega);refine xct rfl<|xsr<|Xw 6 8 E rfl rfl<|xr 1 rfl ?_;replace E:=E.pks [7];refine yc (ZbQ w0 _ q0 text 0 _ hq htz rfl E.o) func172 ?_;rintro _ w32 ⟨zq1, zr1, hr1, hq1, rfl, hs1⟩;refine ⟨_, rfl, ?_⟩; replace E := Bx.mk hs1;clear hs1;refine xr 4 rfl ?_;refine yal z8 E ?_;clear E;intro w33 b10 E;refine yal z5 E ?_;clear E;intro w34 b11 E;refine yst E 1 ?_;clear E;intro w35 E;replace E:=E.nm;refine yst E 0 ?_;clear E;intro w36 E;replace E:=E.nm;refine xr 1 rfl<|xne<|xsq<|xsr<|xr 2 rfl<|xne<|xcs 65 rfl (fun cc8=>?_) fun cc8=>?_;have hok1b : zr1.ok = false := by simpa using cc8
 refine xct rfl<|xsq ?_;refine hld [7,6] E ?_;clear E;intro w37 E M;refine Hw 0 7 8 E rfl rfl<|Hw 1 6 7 E rfl rfl ?_;refine Zo 2 ?_;refine yos 7 [7,6] M ?_;clear E M;intro w38 E M;refine Zo 3 ?_;refine yos 6 [7,6] M ?_;clear E M;intro w39 E M;refine Hp 4 E rfl ?_;refine hdn ?_;replace E := M; clear M;refine xet<|xre<|xtr<|xtr ?_;intro a J;refine Zv J results103 (J.resBox rfl (E.o.box 7 rfl) (by kernel_rfl)) (J.resBox rfl (E.o.box 6 rfl) (by kernel_rfl)) (J.res rfl) ?_;replace E:=E.pks [2];have hzs : zr1.st = q0.d := by rw [hr1] at hok1b ⊢; unfold Yu at hok1b ⊢; split at hok1b; (cases hok1b); rw [if_neg (by assumption)]
 have hz : zq1 = q0 := by rw [hq1, hzs]
 have hT := Zfu (t := t) (k := k) hold htxcc6 ((VT htxcc6 (JW hte)).trans (hr1.symm.trans (UK hok1b)));subst hz;exact ⟨zq1, _, hT.symm, rfl, fun _ => ⟨rfl, Ja.refl _⟩, fun h => (nomatch h), rfl, (E.o.erS [9,8,7,6,5,4,3,2,1])⟩;have hok1b : zr1.ok = true := by simpa using cc8
 have hg1 := ZhA (text := text) (level := 0) hq htz rfl; rw [← hr1] at hg1; have hpo1 := hg1.2; have hok1 : zq1.d.ok = true := by rw [hq1]; exact hg1.1.ok hq
 refine xcf rfl<|xsk<|xet<|xsr<|Xw 1 8 E rfl rfl ?_;refine yst E 9 ?_;clear E;intro w40 E;replace E:=E.nm;refine xne<|xrl<|Xw 0 5 E rfl rfl ?_;refine yst E 3 ?_;clear E;intro w41 E;replace E:=E.nm;refine xne<|xsr<|xr 2 rfl<|Xw 3 5 E rfl rfl<|xy rfl (vx 40 k 5 rfl) ?_;intro a J;refine ZaC PtrD.cells_len rfl rfl rfl (J.ev rfl) (J.ev rfl) (by kernel_rfl) E.o 5 rfl (by omega) (z := zr1.p) rfl (by first | rfl | simp [Value.oneCell']) ?_; clear E; intro w42 E; replace E := Bx.mk E;revert a;refine xne<|xsr<|Xw 9 8 E rfl rfl<|Xw 8 7 E rfl rfl<|xr 2 rfl ?_;have hsl : ((Zn x).set k zr1.p).length = 16 := by rw [length_set]; exact hwl
 have hzl : (Zn x).length = ((Zn x).set k zr1.p).length := (length_set ..).symm;intro a J;rw [hzl] at E J;replace E:=E.nm;replace E:=E.pks [5,3];revert a;refine yc (ZbR w0 _ zq1 t _ _ ((Zn x).set k zr1.p) many (depthN (many : Int)) _ rfl hsl (ZiF hwo hpo1) (by omega) hok1 X.root (fun hd hh => by rw [hq1, hr1]; exact ZkB hq hh (X.kid hd hh)) E.o) func173 ?_;rintro _ w43 ⟨zq2, zr2, hr2, hq2, hf2, hW2, rfl, hs1⟩;refine ⟨_, rfl, ?_⟩; replace E := Bx.mk hs1;clear hs1;refine xr 4 rfl ?_;refine yst E 9 ?_;clear E;intro w44 E;replace E:=E.nm;refine yst E 8 ?_;clear E;intro w45 E;replace E:=E.nm;refine xr 1 rfl<|xne<|xsq<|xsr<|xr 2 rfl<|xne<|xcs 84 rfl (fun cc9=>?_) fun cc9=>?_;have hok2 : zr2.ok = false := by simpa using cc9
 refine xct rfl<|xsq ?_;refine hld [7,6] E ?_;clear E;intro w46 E M;refine Hw 0 7 8 E rfl rfl<|Hw 1 6 7 E rfl rfl ?_;refine Zo 2 ?_;refine yos 7 [7,6] M ?_;clear E M;intro w47 E M;refine Zo 3 ?_;refine yos 6 [7,6] M ?_;clear E M;intro w48 E M;refine Hp 4 E rfl ?_;refine hdn ?_;replace E := M; clear M;refine xet<|xre<|xtr ?_;intro a J;refine Zv J results103 (J.resBox rfl (E.o.box 7 rfl) (by kernel_rfl)) (J.resBox rfl (E.o.box 6 rfl) (by kernel_rfl)) (J.res rfl) ?_;replace E:=E.pks [0];have hq1d : zq1.d = zr1.st := by rw [hq1]
 rw [hq1d] at hr2;have hne : ¬ (((Zm q0.d old).toList == text.toList) = true ∧ (many : Int) = t.ah) := fun h9 => by rw [htxcc6] at h9; exact absurd h9.1 (by decide)
 have hT := X6 hold hmx hne (((VT htxcc6 (JW hte)).trans (hr1.symm.trans (UK hok1b)))); rw [← hr2, hok2] at hT;rw [if_neg Bool.false_ne_true] at hT;obtain ⟨hfa, hfb⟩ := hf2 hok2;exact ⟨zq2, zr2, hT.symm, hq2, fun _ => ⟨by rw [hfa, hq1], hg1.1.trans (hq1d ▸ hfb)⟩, fun h => by (rw [hok2] at h; cases h), by rw [hok2], (E.o.erS [9,8,7,6,5,4,3,2,1])⟩;have hok2 : zr2.ok = true := by simpa using cc9
 refine xcf rfl<|xsk<|xet<|xsq<|xsr<|Xw 4 5 E rfl rfl<|Xw 5 5 E rfl rfl<|xy rfl (fun a J=>Zcj zr1.p old rfl (J.ev rfl) (J.ev rfl))<|xne<|xcs 89 rfl (fun cc10=>?_) fun cc10=>?_;have heq : (zr1.p).eqv old = false := by simpa using cc10
 refine xct rfl<|xrl<|Xw 9 8 E rfl rfl<|Xw 5 5 E rfl rfl ?_;replace E:=E.pks [0];refine yc (Jr w0 _ zq2 old 5 _ hoo (hW2 hok2) (by omega) E.o) func174 ?_;rintro _ w49 ⟨zq3, hq3, rfl, hs1⟩;refine ⟨_, rfl, ?_⟩; replace E := Bx.mk hs1;clear hs1;refine yst E 9 ?_;clear E;intro w50 E;replace E:=E.nm;refine xne<|xsq ?_;refine hld [7,6] E ?_;clear E;intro w51 E M;refine Hw 0 7 8 E rfl rfl<|Hw 1 6 7 E rfl rfl ?_;refine Zo 2 ?_;refine yos 7 [7,6] M ?_;clear E M;intro w52 E M;refine Zo 3 ?_;refine yos 6 [7,6] M ?_;clear E M;intro w53 E M;refine Hp 4 E rfl ?_;refine hdn ?_;replace E := M; clear M;refine xet<|xre ?_;intro a J;refine Zv J results103 (J.resBox rfl (E.o.box 7 rfl) (by kernel_rfl)) (J.resBox rfl (E.o.box 6 rfl) (by kernel_rfl)) (J.res rfl) ?_;replace E:=E.pks [0];have hq1d : zq1.d = zr1.st := by rw [hq1]
 rw [hq1d] at hr2;have hne : ¬ (((Zm q0.d old).toList == text.toList) = true ∧ (many : Int) = t.ah) := fun h9 => by rw [htxcc6] at h9; exact absurd h9.1 (by decide)
 have hT := X6 hold hmx hne (((VT htxcc6 (JW hte)).trans (hr1.symm.trans (UK hok1b)))); rw [← hr2, hok2] at hT;rw [if_pos rfl, heq] at hT;rw [if_neg Bool.false_ne_true] at hT;exact ⟨zq3, _, hT.symm, by rw [hq3, hq2], fun h => (nomatch h), fun _ => hq3 ▸ (hW2 hok2).free hoo, rfl, (E.o.erS [9,8,7,6,5,4,3,2,1])⟩;have heq : (zr1.p).eqv old = true := by simpa using cc10
 refine xcf rfl<|xsk<|xet<|xsq ?_;refine hld [7,6] E ?_;clear E;intro w54 E M;refine Hw 0 7 8 E rfl rfl<|Hw 1 6 7 E rfl rfl ?_;refine Zo 2 ?_;refine yos 7 [7,6] M ?_;clear E M;intro w55 E M;refine Zo 3 ?_;refine yos 6 [7,6] M ?_;clear E M;intro w56 E M;refine Hp 4 E rfl ?_;refine hdn ?_;replace E := M; clear M;refine xet<|xre ?_;intro a J;refine Zv J results103 (J.resBox rfl (E.o.box 7 rfl) (by kernel_rfl)) (J.resBox rfl (E.o.box 6 rfl) (by kernel_rfl)) (J.res rfl) ?_;replace E:=E.pks [0];have hq1d : zq1.d = zr1.st := by rw [hq1]
 rw [hq1d] at hr2;have hne : ¬ (((Zm q0.d old).toList == text.toList) = true ∧ (many : Int) = t.ah) := fun h9 => by rw [htxcc6] at h9; exact absurd h9.1 (by decide)
 have hT := X6 hold hmx hne (((VT htxcc6 (JW hte)).trans (hr1.symm.trans (UK hok1b)))); rw [← hr2, hok2] at hT;rw [if_pos rfl, heq] at hT;rw [if_pos rfl] at hT;exact ⟨zq2, _, hT.symm, hq2, fun h => (nomatch h), fun _ => (hW2 hok2).more (by omega), rfl, (E.o.erS [9,8,7,6,5,4,3,2,1])⟩;have hte : (text.toList == ByteArray.empty.toList) = true := by simpa using cc7
 refine xcf rfl<|xsk<|xet<|xsr<|xr 2 rfl<|Xw 0 5 E rfl rfl<|xy rfl (vx 40 k 5 rfl) ?_;intro a J;refine ZaC PtrD.cells_len rfl rfl rfl (J.ev rfl) (J.ev rfl) (by kernel_rfl) E.o 2 rfl (by omega) (z := PtrD.zero) rfl (by first | rfl | simp [Value.oneCell']) ?_; clear E; intro w57 E; replace E := Bx.mk E;revert a;refine xne<|xsr<|Xw 6 8 E rfl rfl<|Xw 5 7 E rfl rfl<|xr 2 rfl ?_;have hsl : ((Zn x).set k PtrD.zero).length = 16 := by rw [length_set]; exact hwl
 have hzl : (Zn x).length = ((Zn x).set k PtrD.zero).length := (length_set ..).symm;intro a J;rw [hzl] at E J;replace E:=E.nm;replace E:=E.pks [2,7];revert a;refine yc (ZbR w0 _ q0 t _ _ ((Zn x).set k PtrD.zero) many (depthN (many : Int)) _ rfl hsl (ZiF hwo rfl) (by omega) hq X.root X.kid E.o) func173 ?_;rintro _ w58 ⟨zq2, zr2, hr2, hq2, hf2, hW2, rfl, hs1⟩;refine ⟨_, rfl, ?_⟩; replace E := Bx.mk hs1;clear hs1;refine xr 4 rfl ?_;refine yst E 7 ?_;clear E;intro w59 E;replace E:=E.nm;refine yst E 6 ?_;clear E;intro w60 E;replace E:=E.nm;refine xr 1 rfl<|xne<|xsq<|xsr<|xr 2 rfl<|xne<|xcs 84 rfl (fun cc11=>?_) fun cc11=>?_;have hok2 : zr2.ok = false := by simpa using cc11
 refine xct rfl<|xsq ?_;refine hld [5,4] E ?_;clear E;intro w61 E M;refine Hw 0 5 8 E rfl rfl<|Hw 1 4 7 E rfl rfl ?_;refine Zo 2 ?_;refine yos 5 [5,4] M ?_;clear E M;intro w62 E M;refine Zo 3 ?_;refine yos 4 [5,4] M ?_;clear E M;intro w63 E M;refine Hp 4 E rfl ?_;refine hdn ?_;replace E := M; clear M;refine xet<|xre<|xtr ?_;intro a J;refine Zv J results103 (J.resBox rfl (E.o.box 5 rfl) (by kernel_rfl)) (J.resBox rfl (E.o.box 4 rfl) (by kernel_rfl)) (J.res rfl) ?_;replace E:=E.pks [0];have hne : ¬ (((Zm q0.d old).toList == text.toList) = true ∧ (many : Int) = t.ah) := fun h9 => by rw [htxcc6] at h9; exact absurd h9.1 (by decide)
 have hT := X6 hold hmx hne (Zai htxcc6 (Zaj hte)); rw [← hr2, hok2] at hT;rw [if_neg Bool.false_ne_true] at hT;exact ⟨zq2, zr2, hT.symm, hq2, fun _ => hf2 hok2, fun h => by (rw [hok2] at h; cases h), by rw [hok2], (E.o.erS [7,6,5,4,3,2,1])⟩;have hok2 : zr2.ok = true := by simpa using cc11
 refine xcf rfl<|xsk<|xet<|xsq<|xsr<|Xw 2 5 E rfl rfl<|Xw 3 5 E rfl rfl<|xy rfl (fun a J=>Zcj PtrD.zero old rfl (J.ev rfl) (J.ev rfl))<|xne<|xcs 89 rfl (fun cc12=>?_) fun cc12=>?_;have heq : (PtrD.zero).eqv old = false := by simpa using cc12
 refine xct rfl<|xrl<|Xw 7 8 E rfl rfl<|Xw 3 5 E rfl rfl ?_;replace E:=E.pks [0];refine yc (Jr w0 _ zq2 old 5 _ hoo (hW2 hok2) (by omega) E.o) func174 ?_;rintro _ w64 ⟨zq3, hq3, rfl, hs1⟩;refine ⟨_, rfl, ?_⟩; replace E := Bx.mk hs1;clear hs1;refine yst E 7 ?_;clear E;intro w65 E;replace E:=E.nm;refine xne<|xsq ?_;refine hld [5,4] E ?_;clear E;intro w66 E M;refine Hw 0 5 8 E rfl rfl<|Hw 1 4 7 E rfl rfl ?_;refine Zo 2 ?_;refine yos 5 [5,4] M ?_;clear E M;intro w67 E M;refine Zo 3 ?_;refine yos 4 [5,4] M ?_;clear E M;intro w68 E M;refine Hp 4 E rfl ?_;refine hdn ?_;replace E := M; clear M;refine xet<|xre ?_;intro a J;refine Zv J results103 (J.resBox rfl (E.o.box 5 rfl) (by kernel_rfl)) (J.resBox rfl (E.o.box 4 rfl) (by kernel_rfl)) (J.res rfl) ?_;replace E:=E.pks [0];have hne : ¬ (((Zm q0.d old).toList == text.toList) = true ∧ (many : Int) = t.ah) := fun h9 => by rw [htxcc6] at h9; exact absurd h9.1 (by decide)
 have hT := X6 hold hmx hne (Zai htxcc6 (Zaj hte)); rw [← hr2, hok2] at hT;rw [if_pos rfl, heq] at hT;rw [if_neg Bool.false_ne_true] at hT;exact ⟨zq3, _, hT.symm, by rw [hq3, hq2], fun h => (nomatch h), fun _ => hq3 ▸ (hW2 hok2).free hoo, rfl, (E.o.erS [7,6,5,4,3,2,1])⟩;have heq : (PtrD.zero).eqv old = true := by simpa using cc12
 refine xcf rfl<|xsk<|xet<|xsq ?_;refine hld [5,4] E ?_;clear E;intro w69 E M;refine Hw 0 5 8 E rfl rfl<|Hw 1 4 7 E rfl rfl ?_;refine Zo 2 ?_;refine yos 5 [5,4] M ?_;clear E M;intro w70 E M;refine Zo 3 ?_;refine yos 4 [5,4] M ?_;clear E M;intro w71 E M;refine Hp 4 E rfl ?_;refine hdn ?_;replace E := M; clear M;refine xet<|xre ?_;intro a J;refine Zv J results103 (J.resBox rfl (E.o.box 5 rfl) (by kernel_rfl)) (J.resBox rfl (E.o.box 4 rfl) (by kernel_rfl)) (J.res rfl) ?_;replace E:=E.pks [0];have hne : ¬ (((Zm q0.d old).toList == text.toList) = true ∧ (many : Int) = t.ah) := fun h9 => by rw [htxcc6] at h9; exact absurd h9.1 (by decide)
 have hT := X6 hold hmx hne (Zai htxcc6 (Zaj hte)); rw [← hr2, hok2] at hT;rw [if_pos rfl, heq] at hT;rw [if_pos rfl] at hT;exact ⟨zq2, _, hT.symm, hq2, fun h => (nomatch h), fun _ => (hW2 hok2).more (by omega), rfl, (E.o.erS [7,6,5,4,3,2,1])⟩;rw [htxcc1] at cc6; simp at cc6
theorem ZbS {q : SQ} {s : Za} (h : q.d.ok = true) (hg : Ja q.d s) : (.agg #[.slice q.a0 q.d.ac.length q.c0, .slice q.a1 q.d.aa.ag.length q.c1, .slice q.a2 q.d.aa.am.length q.c2, .int .i64 q.d.ar, .slice q.a4 q.d.ai.length q.c4, .int .i64 q.d.ax, .slice q.a6 q.d.al.length q.c6, .bool q.d.az] : Value) = .agg #[.slice ((SQ.mk q.a0 q.c0 q.a1 q.c1 q.a2 q.c2 q.a4 q.c4 q.a6 q.c6 s).a0) ((SQ.mk q.a0 q.c0 q.a1 q.c1 q.a2 q.c2 q.a4 q.c4 q.a6 q.c6 s).d.ac.length) ((SQ.mk q.a0 q.c0 q.a1 q.c1 q.a2 q.c2 q.a4 q.c4 q.a6 q.c6 s).c0), .slice ((SQ.mk q.a0 q.c0 q.a1 q.c1 q.a2 q.c2 q.a4 q.c4 q.a6 q.c6 s).a1) ((SQ.mk q.a0 q.c0 q.a1 q.c1 q.a2 q.c2 q.a4 q.c4 q.a6 q.c6 s).d.aa.ag.length) ((SQ.mk q.a0 q.c0 q.a1 q.c1 q.a2 q.c2 q.a4 q.c4 q.a6 q.c6 s).c1), .slice ((SQ.mk q.a0 q.c0 q.a1 q.c1 q.a2 q.c2 q.a4 q.c4 q.a6 q.c6 s).a2) ((SQ.mk q.a0 q.c0 q.a1 q.c1 q.a2 q.c2 q.a4 q.c4 q.a6 q.c6 s).d.aa.am.length) ((SQ.mk q.a0 q.c0 q.a1 q.c1 q.a2 q.c2 q.a4 q.c4 q.a6 q.c6 s).c2), .int .i64 ((SQ.mk q.a0 q.c0 q.a1 q.c1 q.a2 q.c2 q.a4 q.c4 q.a6 q.c6 s).d.ar), .slice ((SQ.mk q.a0 q.c0 q.a1 q.c1 q.a2 q.c2 q.a4 q.c4 q.a6 q.c6 s).a4) ((SQ.mk q.a0 q.c0 q.a1 q.c1 q.a2 q.c2 q.a4 q.c4 q.a6 q.c6 s).d.ai.length) ((SQ.mk q.a0 q.c0 q.a1 q.c1 q.a2 q.c2 q.a4 q.c4 q.a6 q.c6 s).c4), .int .i64 ((SQ.mk q.a0 q.c0 q.a1 q.c1 q.a2 q.c2 q.a4 q.c4 q.a6 q.c6 s).d.ax), .slice ((SQ.mk q.a0 q.c0 q.a1 q.c1 q.a2 q.c2 q.a4 q.c4 q.a6 q.c6 s).a6) ((SQ.mk q.a0 q.c0 q.a1 q.c1 q.a2 q.c2 q.a4 q.c4 q.a6 q.c6 s).d.al.length) ((SQ.mk q.a0 q.c0 q.a1 q.c1 q.a2 q.c2 q.a4 q.c4 q.a6 q.c6 s).c6), .bool ((SQ.mk q.a0 q.c0 q.a1 q.c1 q.a2 q.c2 q.a4 q.c4 q.a6 q.c6 s).d.az)] := by
 have a := Za.ok_spec h; have b := Za.ok_spec (hg.ok h);have c := Zq.ok_spec a.space; have d := Zq.ok_spec b.space;dsimp only;rw [a.rows, b.rows, c.refs, d.refs, c.last, d.last, hg.txg, hg.keep, hg.same, hg.gone, hg.dead]
theorem ZbT {l : List PtrD} {i : Nat} {s : Za} (hi : i < l.length) : X8 (l.drop i) s = X8 (l.drop (i + 1)) (s.free (l.getD i PtrD.zero)) := by
 rw [Uy hi]; rfl
theorem Zei (w0 w : World) (q0 : SQ) (t : Zd) {x l : List PtrD} (X : TreeX q0.d t x l) (many : Nat) (hm16 : many ≤ 16) (F : List Asr) (hq : q0.d.ok = true) (hS : St w0 (q0.asr :: F) w) : Calls prog 329 #[q0.u, tV t, .int .i64 (many : Int)] w fun e w' => ∃ (q' : SQ) (r : JU), r = QL q0.d t x many ∧ q'.d = r.st ∧ (r.ok = false → q' = { q0 with d := r.st } ∧ Ja q0.d r.st) ∧ (r.ok = true → Up 30 q'.d) ∧ e = .returned (.tuple #[q'.u, tV r.t, .bool r.ok]) ∧ St w0 (q'.asr :: F) w' := by
 have hrow0 := Xa hq; have hwl := Uz X.x16; have hwo := ZbC X.xok;have E := Bx.mk hS; clear hS;refine ent func329 ntmps329 ?_;refine xsr ?_;refine ybx E ?_;clear E;intro w1 b1 E;refine ybx E ?_;clear E;intro w2 b2 E;refine yal z8 E ?_;clear E;intro w3 b3 E;refine yal z7 E ?_;clear E;intro w4 b4 E;refine xr 1 rfl<|xne<|xsq<|xsr<|xr 1 rfl<|Xf 6 rfl<|Xl 2 E rfl rfl<|xr 1 rfl<|xne<|xce 17 rfl (fun _ dcc1=>?_) fun _ dcc1=>?_;refine xct rfl<|xsq ?_;refine hld [1,0] E ?_;clear E;intro w5 E M;refine Hw 0 1 8 E rfl rfl<|Hw 1 0 7 E rfl rfl ?_;refine Zo 2 ?_;refine yos 1 [1,0] M ?_;clear E M;intro w6 E M;refine Zo 3 ?_;refine yos 0 [1,0] M ?_;clear E M;intro w7 E M;refine Hp 4 E rfl ?_;refine hdn ?_;replace E := M; clear M;refine xet<|xre<|xtr ?_;intro a J;refine Zv J results329 (J.resBox rfl (E.o.box 1 rfl) (by kernel_rfl)) (J.resBox rfl (E.o.box 0 rfl) (by kernel_rfl)) (J.res rfl) ?_;replace E:=E.pks [4];have hT : QL q0.d t x many = ⟨q0.d, t, true⟩ := by unfold QL; rw [if_pos (by omega)]
 exact ⟨q0, _, hT.symm, rfl, fun h => (nomatch h), fun _ => (QI hq).more (by omega), rfl, (E.o.erS [4,3,2,1])⟩;refine xcf rfl<|xsk<|xet<|xsr<|Xw 3 8 E rfl rfl<|Xw 2 7 E rfl rfl ?_;refine yc (U4 q0.a0 q0.c0 q0.a1 q0.c1 q0.a2 q0.c2 q0.a4 q0.c4 q0.a6 q0.c6 q0.d t X.dn X.dep X.x16 _ (E.o.sqRd 4 rfl) hrow0) func171 ?_;rintro _ w8 ⟨ao5, cp5, rfl, hs⟩;refine ⟨_, rfl, ?_⟩;replace E := E.ad hs;clear hs;refine xr 1 rfl<|xne<|xsr<|Xw 4 8 E rfl rfl<|Xw 3 7 E rfl rfl<|xr 2 rfl ?_;replace E:=E.pks [0,5];refine yc (ZbR w0 _ q0 t _ _ (Zn x) many (depthN (many : Int)) _ rfl hwl hwo (by omega) hq X.root X.kid E.o) func173 ?_;rintro _ w9 ⟨zq1, zt1, hr1, hq1, hf1, hW1, rfl, hs1⟩;refine ⟨_, rfl, ?_⟩; replace E := Bx.mk hs1;clear hs1;refine xr 4 rfl ?_;refine yal z8 E ?_;clear E;intro w10 b6 E;refine yal z7 E ?_;clear E;intro w11 b7 E;refine yst E 1 ?_;clear E;intro w12 E;replace E:=E.nm;refine yst E 0 ?_;clear E;intro w13 E;replace E:=E.nm;refine xr 1 rfl<|xne<|xsq<|xsr<|xr 2 rfl<|xne<|xcs 33 rfl (fun cc2=>?_) fun cc2=>?_;have hok1 : zt1.ok = false := by simpa using cc2
 refine xct rfl<|xsq ?_;refine hld [5,4] E ?_;clear E;intro w14 E M;refine Hw 0 5 8 E rfl rfl<|Hw 1 4 7 E rfl rfl ?_;refine Zo 2 ?_;refine yos 5 [5,4] M ?_;clear E M;intro w15 E M;refine Zo 3 ?_;refine yos 4 [5,4] M ?_;clear E M;intro w16 E M;refine Hp 4 E rfl ?_;refine hdn ?_;replace E := M; clear M;refine xet<|xre<|xtr ?_;intro a J;refine Zv J results329 (J.resBox rfl (E.o.box 5 rfl) (by kernel_rfl)) (J.resBox rfl (E.o.box 4 rfl) (by kernel_rfl)) (J.res rfl) ?_;replace E:=E.pks [2];obtain ⟨hfa, hfb⟩ := hf1 hok1;have hT : QL q0.d t x many = ⟨zt1.st, t, false⟩ := by unfold QL; rw [if_neg (by omega), ← hr1, hok1, if_neg Bool.false_ne_true]
 exact ⟨zq1, _, hT.symm, hq1, fun _ => ⟨hfa, hfb⟩, fun h => (nomatch h), by rw [hfa, ZbS hq hfb] <;> rfl, (E.o.erS [7,6,5,4,3,2,1])⟩;have hok1 : zt1.ok = true := by simpa using cc2
 refine xcf rfl<|xsk<|xet<|xsq<|xsr<|xr 2 rfl<|xne<|xbl ?_;replace E:=E.pks [1,2];intro a J;refine Zs (ι := Nat) (fun i a w => ∃ (q2 : SQ), (many ≤ i ∧ i ≤ 16 ∧ X8 ((Zn x).drop i) q2.d = X8 ((Zn x).drop many) zq1.d ∧ Up (i + 5) q2.d) ∧ Fr 51 a [(2, .int .i64 (many : Int)), (3, .pointer (some ⟨b1, 0, none⟩)), (4, .pointer (some ⟨b2, 0, none⟩)), (6, .pointer (some ⟨b3, 0, none⟩)), (7, .pointer (some ⟨b4, 0, none⟩)), (9, .slice ao5 ((Zn x).length) cp5), (10, .pointer (some ⟨b6, 0, none⟩)), (11, .pointer (some ⟨b7, 0, none⟩)), (13, .int .i64 (i : Int))] ∧ St w0 (SQ.asr q2 :: boxA b6 8 39 (q2.u) :: boxA b7 7 42 (tV zt1.t) :: Zg PtrD.cells 5 40 (.slice ao5 ((Zn x).length) cp5) (Zn x) :: boxA b4 7 42 (az7) :: boxA b3 8 39 (az8) :: boxA b2 7 42 (tV t) :: boxA b1 8 39 (q0.u) :: F) w) (fun i => 16 - i) many ⟨zq1, ⟨Nat.le_refl _, by omega, rfl, (hW1 hok1).more (by omega)⟩, J.less _ ⟨rfl, rfl, rfl, rfl, rfl, rfl, rfl, rfl, rfl, trivial⟩, E.o⟩ ?_;clear J E; clear a;rintro i a w17 ⟨q2, ⟨hmi, hi, hfr, hW⟩, J, E⟩;replace E := Bx.mk E;revert a;refine xsq<|xsr<|xr 2 rfl<|xy rfl (vn 40 5 rfl)<|xr 1 rfl<|xne<|xcd 40 rfl (fun _ dcc3=>?_) fun _ dcc3=>?_
 refine xct rfl<|xsk<|xet<|xsq<|xbl ?_;obtain ⟨g8, rfl, _, _, _, _⟩ := E.o.rowOpen 3 rfl (by omega);refine hld [1,0] E ?_;clear E;intro w18 E M;refine Hp 1 E rfl<|Hp 2 E rfl<|xhy 3 E.o rfl rfl (fun E=>vx 40 i 5 rfl)<|xhy 4 E.o rfl rfl (fun E a J=>ylr (cs := pL ((Zn x).getD i PtrD.zero)) rfl (J.ev rfl) (E.elem PtrD.cells_len 1 rfl (Zh (xs := (Zn x)) (j := i) (d := PtrD.zero) (by omega)))) ?_;refine Zo 0 ?_;refine yoy E (fun a J=>ylr (cs := q2.l) rfl (J.ev rfl) ((M.o.box 1 rfl).sub 0 8)) ?_;refine Zo 5 ?_;intro a J;replace M:=M.pks [0];revert a;refine yo (Jr w0 _ q2 ((Zn x).getD i PtrD.zero) (i + 5) _ (hwo _ (YD (by omega))) hW (by omega) M.o) func174 ?_;rintro _ w21 ⟨zq3, hq3, rfl, hs1⟩;refine ⟨_, rfl, ?_⟩; replace M := Bx.mk hs1;clear hs1;intro a J;replace M:=M.nm;clear E;have E:=M.ers [1,0];refine ⟨E.o, ?_⟩;revert a;refine Zo 6 ?_;refine yos 1 [1,0] M ?_;clear E M;intro w22 E M;refine hdn ?_;replace E := M; clear M;refine xeb<|xet<|xrl<|xr 1 rfl<|xy rfl (vad rfl)<|xr 1 rfl<|xne ?_;have hst := ZbT (s := q2.d) (show i < (Zn x).length by omega); rw [← hq3] at hst;intro a J;exact ⟨i + 1, ⟨_, ⟨by omega, by omega, hst.symm.trans hfr, by rw [show i + 1 + 5 = i + 5 + 1 by omega]; exact hq3 ▸ hW.free (hwo _ (YD (by omega)))⟩, J.less _ ⟨rfl, rfl, rfl, rfl, rfl, rfl, rfl, rfl, rfl, trivial⟩, E.o⟩, (by omega)⟩;refine xcf rfl<|xex<|xtx<|xtx<|xbh<|xet<|xsq ?_;refine hld [5,4] E ?_;clear E;intro w23 E M;refine Hw 0 1 8 E rfl rfl<|Hw 1 2 7 E rfl rfl ?_;refine Zo 2 ?_;refine yos 5 [5,4] M ?_;clear E M;intro w24 E M;refine Zo 3 ?_;refine yos 4 [5,4] M ?_;clear E M;intro w25 E M;refine Hp 4 E rfl ?_;refine hdn ?_;replace E := M; clear M;refine xet<|xre ?_;intro a J;refine Zv J results329 (J.resBox rfl (E.o.box 5 rfl) (by kernel_rfl)) (J.resBox rfl (E.o.box 4 rfl) (by kernel_rfl)) (J.res rfl) ?_;replace E:=E.pks [0];have hT : QL q0.d t x many = ⟨q2.d, zt1.t, true⟩ := by unfold QL; rw [if_neg (by omega), ← hr1, hok1, if_pos rfl, ← hq1, ← hfr, List.drop_of_length_le (by omega)]; rfl
 exact ⟨q2, _, hT.symm, rfl, fun h => (nomatch h), fun _ => hW.more (by omega), rfl, (E.o.erS [7,6,5,4,3,2,1])⟩
noncomputable def innL (st : Za) : Nat → PtrD → List PtrD
 | 0, _ => []
 | n + 1, p => bif p.hole then [] else p :: ((kids st p ((n + 1 : Nat) : Int)).getD []).flatMap (innL st n)
theorem UN {st : Za} {p : PtrD} (h : p.hole = true) : ∀ n, innL st n p = []
 | 0 => rfl
 | n + 1 => by unfold innL; rw [h]; rfl
theorem Xi {st : Za} {p : PtrD} {n : Nat} {l : List PtrD} (h : p.hole = false) (hk : kids st p ((n + 1 : Nat) : Int) = some l) : innL st (n + 1) p = p :: l.flatMap (innL st n) := by
 show (bif p.hole then [] else p :: ((kids st p ((n + 1 : Nat) : Int)).getD []).flatMap (innL st n)) = _;rw [h, hk]; rfl
theorem ZbU {p : PtrD} (h : p.hole = true) {i : Nat} (hi : 8 ≤ i) : cnt [p] i = 0 := UH (fun q hq => by rw [mem_singleton.1 hq]; exact h) hi
theorem ZhE {f g h : PtrD → List PtrD} {i : Nat} : ∀ {l : List PtrD}, (∀ q ∈ l, cnt (f q) i = cnt (g q) i + cnt (h q) i) → cnt (l.flatMap f) i = cnt (l.flatMap g) i + cnt (l.flatMap h) i
 | [], _ => rfl
 | q :: r, e => by
  rw [flatMap_cons, flatMap_cons, flatMap_cons, Zj, Zj, Zj, e q (mem_cons_self ..), ZhE fun x hx => e x (mem_cons_of_mem _ hx)]
  omega
theorem Zjw (n i : Nat) (hi : 8 ≤ i) : cnt (replicate n PtrD.zero) i = 0 := UH (fun q hq => by rw [(mem_replicate.1 hq).2]; rfl) hi
theorem Zej {st : Za} : ∀ {n : Nat} {p : PtrD}, Wf st n p → ∀ i, 8 ≤ i → cnt (allL st n p) i = cnt (innL st n p) i + cnt (lvL st n p) i
 | 0, p, _, i, hi => by
  show cnt (allL st 0 p) i = cnt [] i + cnt [p] i
  cases hh : p.hole with
  | true => rw [ZT hh, ZbU hh hi]; rfl
  | false => rw [Qn hh, Jg, Nat.zero_add]
 | n + 1, p, ⟨ho, hb, l, hk, hw⟩, i, hi => by
  cases hh : p.hole with
  | true => rw [ZT hh, UN hh, ZbF hh, Zjw _ _ hi, Jg]
  | false =>
   rw [YP hh hk, Xi hh hk, QF hk, YT, YT, ZhE fun q hq => Zej (hw q hq) i hi]
   omega
theorem ZhF {st : Za} : ∀ {n : Nat} {p : PtrD}, Wf st n p → ∀ q ∈ innL st n p, q ∈ allL st n p
 | 0, p, _, q, hq => by cases hq
 | n + 1, p, ⟨ho, hb, l, hk, hw⟩, q, hq => by
  cases hh : p.hole with
  | true => rw [UN hh] at hq; cases hq
  | false =>
   rw [Xi hh hk] at hq;rw [YP hh hk];rcases mem_cons.1 hq with rfl | hq
   ·exact mem_cons_self ..
   ·obtain ⟨k, hkl, hq⟩ := List.mem_flatMap.1 hq
    exact mem_cons_of_mem _ (List.mem_flatMap.2 ⟨k, hkl, ZhF (hw k hkl) q hq⟩)
theorem Zjx {st : Za} : ∀ {n : Nat} {p : PtrD}, Wf st n p → ∀ q ∈ lvL st n p, q.hole = true ∨ q ∈ allL st n p
 | 0, p, _, q, hq => by
  rw [show lvL st 0 p = [p] from rfl, mem_singleton] at hq;subst hq
  cases hh : q.hole with
  | true => exact .inl rfl
  | false => rw [Qn hh]; exact .inr (mem_singleton.2 rfl)
 | n + 1, p, ⟨ho, hb, l, hk, hw⟩, q, hq => by
  cases hh : p.hole with
  | true => rw [ZbF hh] at hq; rw [(mem_replicate.1 hq).2]; exact .inl rfl
  | false =>
   rw [QF hk] at hq;obtain ⟨k, hkl, hq⟩ := List.mem_flatMap.1 hq;rcases Zjx (hw k hkl) q hq with h | h
   ·exact .inl h
   ·rw [YP hh hk]; exact .inr (mem_cons_of_mem _ (List.mem_flatMap.2 ⟨k, hkl, h⟩))
theorem ZbV {st : Za} {n : Nat} {p : PtrD} (h : Wf st (n + 1) p) : ∃ l, kidsS st p ((n + 1 : Nat) : Int) = some l ∧ kids st p ((n + 1 : Nat) : Int) = some l ∧ ∀ k ∈ l, Wf st n k := by
 obtain ⟨ho, hb, l, hk, hw⟩ := h;exact ⟨l, by rw [JI ho hb]; exact hk, hk, hw⟩
theorem Zjy {st : Za} {n : Nat} : ∀ {l : List PtrD}, (∀ p ∈ l, Wf st (n + 1) p) → YJ (fun p => kidsS st p ((n + 1 : Nat) : Int)) l = some (l.flatMap fun p => (kids st p ((n + 1 : Nat) : Int)).getD []) ∧ ∀ q ∈ (l.flatMap fun p => (kids st p ((n + 1 : Nat) : Int)).getD []), Wf st n q
 | [], _ => ⟨rfl, fun q hq => nomatch hq⟩
 | p :: r, h => by
  obtain ⟨l, h1, h2, h3⟩ := ZbV (h p (mem_cons_self ..));obtain ⟨e, hw⟩ := Zjy fun q hq => h q (mem_cons_of_mem _ hq)
  refine ⟨by rw [Zab h1, e, flatMap_cons, h2]; rfl, fun q hq => ?_⟩;rw [flatMap_cons, h2] at hq;rcases mem_append.1 hq with hq | hq
  ·exact h3 q hq
  ·exact hw q hq
theorem Zek {st : Za} : ∀ l : List PtrD, l.flatMap (lvL st 0) = l
 | [] => rfl
 | q :: r => by rw [flatMap_cons, Zek r]; rfl
theorem Zfz (f g : PtrD → List PtrD) : ∀ l : List PtrD, (l.flatMap f).flatMap g = l.flatMap fun p => (f p).flatMap g
 | [] => rfl
 | q :: r => by rw [flatMap_cons, List.flatMap_append, flatMap_cons, Zfz f g r]
theorem Zjz {st : Za} : ∀ {n : Nat} {l : List PtrD}, (∀ p ∈ l, Wf st n p) → downL (kidsS st) n l = some (l.flatMap (lvL st n))
 | 0, l, _ => by
  show some l = _
  congr 1
  exact (Zek l).symm
 | n + 1, l, h => by
  obtain ⟨e, hw⟩ := Zjy h;rw [Jp e, Zjz hw, Zfz]
  rfl
section
variable {st0 : Za} {inn R A : List PtrD} {n : Nat}
theorem ZkC {back : List PtrD} {m : Nat} (h : back.length = 4 * (m + 1)) : (back.take 4).length = 4 ∧ (back.drop 4).length = 4 * m := by
 rw [length_take, List.length_drop]; omega
def ZjA (st0 : Za) (inn : List PtrD) (n : Nat) (w : PtrD) : Prop := w.hole = true ∨ (w.hole = false ∧ Wf st0 (n + 1) w ∧ w ∈ inn)
theorem ZbW (hn : n + 1 ≤ 2) : ∀ {m : Nat} {L W next back was stays : List PtrD} {st : Za} {N : List PtrD}, LayI st0 inn R A L n W next back stays st N → back.length = 4 * m → m ≤ was.length → (∀ w ∈ was, ZjA st0 inn n w) →
  ((YZ ((n + 1 : Nat) : Int) m back was st next stays).ok = true → ∃ N', LayI st0 inn R A L n (W ++ was.take m) (YZ ((n + 1 : Nat) : Int) m back was st next stays).next [] (YZ ((n + 1 : Nat) : Int) m back was st next stays).stays (YZ ((n + 1 : Nat) : Int) m back was st next stays).st N' ∧ (YZ ((n + 1 : Nat) : Int) m back was st next stays).next.length = next.length + m) ∧
  ((YZ ((n + 1 : Nat) : Int) m back was st next stays).ok = false → ∃ N', Inv (YZ ((n + 1 : Nat) : Int) m back was st next stays).st (N' ++ (inn ++ R)) ∧ Z1 st0 (YZ ((n + 1 : Nat) : Int) m back was st next stays).st (inn ++ R))
 | 0, L, W, next, back, was, stays, st, N, h, hb, _, _ => by
  obtain rfl : back = [] := List.length_eq_zero_iff.1 (by omega);rw [Zks, List.take_zero, append_nil];exact ⟨fun _ => ⟨N, h, rfl⟩, fun e => by cases e⟩
 | m + 1, L, W, next, back, was, stays, st, N, h, hb, hw, hwo => by
  obtain ⟨w, wr, rfl⟩ : ∃ w wr, was = w :: wr := by
   cases was with
   | nil => simp at hw
   | cons w wr => exact ⟨w, wr, rfl⟩
  obtain ⟨hc4, hb4⟩ := ZkC hb;have hsplit : back = back.take 4 ++ back.drop 4 := (List.take_append_drop 4 back).symm;rw [hsplit] at h;have hco : ∀ p ∈ back.take 4, p.ok = true := fun p hp => (h.wfb p (mem_append_left _ hp)).ok.1
  have hok := h.inv.ok;have hwo1 := hwo w (mem_cons_self ..);have hwr : ∀ x ∈ wr, ZjA st0 inn n x := fun x hx => hwo x (mem_cons_of_mem _ hx)
  have hlw : m ≤ wr.length := by simpa using hw
  -- the step
  have key : ∀ {s : Za} {p : PtrD} {N' : List PtrD}, Ya st (back.take 4) ((n + 1 : Nat) : Int) w = ⟨s, p, true⟩ → LayI st0 inn R A L n (W ++ [w]) (next ++ [p]) (back.drop 4) (QH stays p w) s N' →
    ((YZ ((n + 1 : Nat) : Int) (m + 1) back (w :: wr) st next stays).ok = true → ∃ N', LayI st0 inn R A L n (W ++ (w :: wr).take (m + 1)) (YZ ((n + 1 : Nat) : Int) (m + 1) back (w :: wr) st next stays).next [] (YZ ((n + 1 : Nat) : Int) (m + 1) back (w :: wr) st next stays).stays (YZ ((n + 1 : Nat) : Int) (m + 1) back (w :: wr) st next stays).st N' ∧ (YZ ((n + 1 : Nat) : Int) (m + 1) back (w :: wr) st next stays).next.length = next.length + (m + 1)) ∧
    ((YZ ((n + 1 : Nat) : Int) (m + 1) back (w :: wr) st next stays).ok = false → ∃ N', Inv (YZ ((n + 1 : Nat) : Int) (m + 1) back (w :: wr) st next stays).st (N' ++ (inn ++ R)) ∧ Z1 st0 (YZ ((n + 1 : Nat) : Int) (m + 1) back (w :: wr) st next stays).st (inn ++ R)) := fun {s p N'} hf hl => by
   have ih := ZbW hn hl hb4 hlw hwr;have e : YZ ((n + 1 : Nat) : Int) (m + 1) back (w :: wr) st next stays = YZ ((n + 1 : Nat) : Int) m (back.drop 4) wr s (next ++ [p]) (QH stays p w) := Zhz hf;rw [e];refine ⟨fun ho => ?_, ih.2⟩;obtain ⟨N2, h2, h3⟩ := ih.1 ho;refine ⟨N2, ?_, by rw [h3, length_append, length_singleton]; omega⟩;rw [List.take_succ_cons, show W ++ w :: wr.take m = (W ++ [w]) ++ wr.take m by simp];exact h2
  cases ha : (back.take 4).all (fun p => p.hole) with
  | true => exact key (U8 ha) (h.hole hc4 ha w)
  | false =>
   have hfan : ∀ s, fanB (back.take 4) = s → IsFan s (back.take 4) := fun s e => ⟨hc4, hco, ha, e⟩
   cases hs : Xb st (back.take 4) w with
   | true =>
    have hs2 := hs;unfold Xb at hs2;simp only [Bool.and_eq_true, Bool.not_eq_true'] at hs2;rcases hwo1 with hw1 | ⟨hw1, hw2, hw3⟩
    ·rw [hw1] at hs2; exact absurd hs2.1 (by decide)
    ·exact key (U9 ha hs) (h.reuse (hfan _ (XY hs2.2.2).symm) hw1 hw2 hw3)
   | false =>
    by_cases hi : writeAt st (fanB (back.take 4)) ((n + 1 : Nat) : Int) < 64
    ·exact key (ZcV ha hs hi rfl) (h.fresh (hfan _ rfl) (ZbP hc4 hco) hn hi rfl w)
    ·have e : YZ ((n + 1 : Nat) : Int) (m + 1) back (w :: wr) st next stays = ⟨st, next, stays, false⟩ := Zjs (p := PtrD.zero) (Zea ha hs (by have := JT st (fanB (back.take 4)) ((n + 1 : Nat) : Int); omega))
     rw [e];exact ⟨fun e => (nomatch e), fun _ => ⟨N, h.inv, h.kp⟩⟩
end
theorem Za4 {st : Za} {l : List PtrD} (h : ∀ q ∈ l, Wf st 1 q) : l.flatMap (innL st 1) = l.filter fun q => !q.hole := by
 induction l with
 | nil => rfl
 | cons q r ih =>
  rw [flatMap_cons, ih fun x hx => h x (mem_cons_of_mem _ hx), List.filter_cons];obtain ⟨_, _, m, hk, _⟩ := h q (mem_cons_self ..)
  cases hh : q.hole with
  | true => rw [UN hh]; rfl
  | false =>
   rw [Xi hh hk, show m.flatMap (innL st 0) = [] by rw [List.flatMap_eq_nil_iff]; intro _ _; rfl]; rfl
theorem ZkD {st : Za} {t : Zd} {d : Nat} (hd : t.aw = (d : Int)) (h2 : d ≤ 2) (hw : Wf st d t.af) : ZD st t = innL st d t.af := by
 unfold ZD;rcases (by omega : d = 0 ∨ d = 1 ∨ d = 2) with rfl | rfl | rfl
 ·rw [if_pos (.inl (by omega))]; rfl
 ·cases hh : t.af.hole with
  | true => rw [if_pos (.inr rfl), UN hh]
  | false =>
   obtain ⟨_, _, m, hk, _⟩ := hw;rw [if_neg (fun h => h.elim (fun h => by omega) (fun h => by cases h)), if_neg (by omega), Xi hh hk, show m.flatMap (innL st 0) = [] by rw [List.flatMap_eq_nil_iff]; intro _ _; rfl]
 ·cases hh : t.af.hole with
  | true => rw [if_pos (.inr rfl), UN hh]
  | false =>
   obtain ⟨m, hks, hk, hm⟩ := ZbV hw;rw [if_neg (fun h => h.elim (fun h => by omega) (fun h => by cases h)), if_pos (by omega), Xi hh hk, Za4 hm, show kidsS st t.af 2 = some m from hks]; rfl
theorem Zel {st s : Za} {t : Zd} {d0 d lv : Nat} (hd0 : t.aw = (d0 : Int)) (h2 : d0 ≤ 2) (hw : Wf st d0 t.af) {Y : List PtrD} (hk : Z1 st s Y) (hY : ∀ q ∈ innL st d0 t.af, q ∈ Y) (h1 : 1 ≤ lv) (hl : lv ≤ d) :
  Z9 s t d lv = Z9 st t d lv ∧ ∀ w ∈ Z9 st t d lv, ZjA st (innL st d0 t.af) (lv - 1) w := by
 have hz : ∀ w ∈ YC, ZjA st (innL st d0 t.af) (lv - 1) w := fun w hw => by
  simp only [YC, mem_cons, List.not_mem_nil, or_false, or_self] at hw;rw [hw]; exact .inl rfl
 unfold Z9
 by_cases e : t.aw = (d : Int)
 ·obtain rfl : d0 = d := by omega
  rw [if_pos e, if_pos e]
  by_cases e2 : lv = d0
  ·rw [if_pos e2, if_pos e2]
   refine ⟨rfl, fun w hwm => ?_⟩;rw [mem_singleton.1 hwm];obtain ⟨n, rfl⟩ : ∃ n, d0 = n + 1 := ⟨d0 - 1, by omega⟩
   cases hh : t.af.hole with
   | true => exact .inl hh
   | false =>
    have hw2 := hw;obtain ⟨_, _, m, hk2, _⟩ := hw2;exact .inr ⟨hh, by rw [show lv - 1 + 1 = n + 1 by omega]; exact hw, by rw [Xi hh hk2]; exact mem_cons_self ..⟩
  ·rw [if_neg e2, if_neg e2]
   obtain rfl : d0 = 2 := by omega
   obtain rfl : lv = 1 := by omega
   obtain ⟨m, hks, hkk, hm⟩ := ZbV hw;have hks : kidsS st t.af ((2 : Nat) : Int) = some m := hks;have hss : kidsS s t.af ((2 : Nat) : Int) = some m := by
    cases hh : t.af.hole with
    | true => rw [JH hh] at hks ⊢; exact hks
    | false =>
     have hrow := hk.row t.af (hY _ (by rw [Xi hh hkk]; exact mem_cons_self ..)) hw.ok.1 hh;rw [← hks];unfold kidsS;rw [ZbE fun _ => hrow, hk.txg]
   rw [hks, hss];refine ⟨rfl, fun w hwm => ?_⟩
   cases hh : t.af.hole with
   | true =>
    rw [JH hh] at hks;obtain rfl := Option.some.inj hks;exact hz w hwm
   | false =>
    cases hwh : w.hole with
    | true => exact .inl hwh
    | false =>
     refine .inr ⟨hwh, hm w hwm, ?_⟩;rw [Xi hh hkk, Za4 hm];exact mem_cons_of_mem _ (List.mem_filter.2 ⟨hwm, by rw [hwh]; rfl⟩)
 ·rw [if_neg e, if_neg e]
  exact ⟨rfl, hz⟩
theorem Y8.sub {a b : List PtrD} (h : a.Sublist b) : Y8 a b := fun f i _ => Zgn (h.filter f) i
theorem Va (m : Nat) : ∀ q ∈ YC.take m, q.hole = true := fun q hq => by
 have := List.mem_of_mem_take hq;simp only [YC, mem_cons, List.not_mem_nil, or_false, or_self] at this;rw [this]; rfl
theorem Zmy {st : Za} {t : Zd} {d0 : Nat} (hd0 : t.aw = (d0 : Int)) (h2 : d0 ≤ 2) (hw : Wf st d0 t.af) (m : Nat) : Y8 ((Z9 st t 1 1).take m) (innL st d0 t.af) := by
 unfold Z9
 by_cases e : t.aw = ((1 : Nat) : Int)
 ·obtain rfl : d0 = 1 := by omega
  rw [if_pos e, if_pos rfl];refine (Y8.sub (List.take_sublist ..)).trans ?_
  cases hh : t.af.hole with
  | true => exact Y8.holes fun q hq => by rw [mem_singleton.1 hq]; exact hh
  | false =>
   obtain ⟨_, _, l, hk, _⟩ := hw;rw [Xi hh hk];exact Y8.sub (List.singleton_sublist.2 (mem_cons_self ..))
 ·rw [if_neg e]; exact Y8.holes (Va m)
theorem Zmz {st : Za} {t : Zd} {d0 : Nat} (hd0 : t.aw = (d0 : Int)) (h2 : d0 ≤ 2) (hw : Wf st d0 t.af) (m k : Nat) : Y8 ((Z9 st t 2 1).take m ++ (Z9 st t 2 2).take k) (innL st d0 t.af) := by
 unfold Z9
 by_cases e : t.aw = ((2 : Nat) : Int)
 ·obtain rfl : d0 = 2 := by omega
  rw [if_pos e, if_pos e, if_neg (by omega), if_pos rfl];obtain ⟨l, hks, hkk, hm⟩ := ZbV hw;rw [show kidsS st t.af ((2 : Nat) : Int) = some l from hks];refine ((Y8.sub (List.take_sublist ..)).app (Y8.sub (List.take_sublist ..))).trans ?_
  cases hh : t.af.hole with
  | true =>
   rw [JH hh] at hks;obtain rfl := Option.some.inj hks;refine Y8.holes fun q hq => ?_;rcases mem_append.1 hq with hq | hq
   ·simp only [getD_some, YC, mem_cons, List.not_mem_nil, or_false, or_self] at hq
    rw [hq]; rfl
   ·rw [mem_singleton.1 hq]; exact hh
  | false =>
   rw [Xi hh hkk, Za4 hm];refine ((Y8.some l).app (Y8.refl [t.af])).trans ?_;exact Y8.swap _ _
 ·rw [if_neg e, if_neg e]
  refine Y8.holes fun q hq => ?_;rcases mem_append.1 hq with hq | hq
  ·exact Va _ q hq
  ·exact Va _ q hq
theorem Zco {sy : List PtrD} : ∀ {inn Y : List PtrD} {s : Za}, Inv s (inn ++ Y) → (∀ p ∈ inn, p.ok = true) → Inv (Vj sy inn s) (inn.filter (Q0 sy) ++ Y) ∧ Z1 s (Vj sy inn s) (inn.filter (Q0 sy) ++ Y)
 | [], Y, s, h, _ => ⟨h, Z1.refl _ _⟩
 | p :: r, Y, s, h, ho => by
  have hor : ∀ q ∈ r, q.ok = true := fun q hq => ho q (mem_cons_of_mem _ hq)
  rw [List.filter_cons];show Inv (Vj sy r (if Q0 sy p = true then s else s.free p)) _ ∧ Z1 s (Vj sy r (if Q0 sy p = true then s else s.free p)) _
  cases hk : Q0 sy p with
  | true =>
   rw [if_pos rfl, if_pos rfl];have h2 : Inv s (r ++ (p :: Y)) := h.mono fun i _ _ => by
    rw [List.cons_append, YT, Zj, Zj, YT]; omega
   obtain ⟨i1, i2⟩ := Zco (sy := sy) h2 hor;refine ⟨i1.mono fun i _ _ => ?_, i2.mono fun q hq => ?_⟩
   ·rw [List.cons_append, YT, Zj, Zj, YT]; omega
   ·rw [List.cons_append] at hq
    rcases mem_cons.1 hq with rfl | hq
    ·exact mem_append_right _ (mem_cons_self ..)
    ·rcases mem_append.1 hq with hq | hq
     ·exact mem_append_left _ hq
     ·exact mem_append_right _ (mem_cons_of_mem _ hq)
  | false =>
   rw [if_neg Bool.false_ne_true, if_neg Bool.false_ne_true];obtain ⟨j1, j2⟩ := Inv.free (X := r ++ Y) (by rw [List.cons_append] at h; exact h) (ho p (mem_cons_self ..));obtain ⟨i1, i2⟩ := Zco (sy := sy) j1 hor;refine ⟨i1, (j2.mono fun q hq => ?_).trans i2⟩;rcases mem_append.1 hq with hq | hq
   ·exact mem_append_left _ (List.mem_filter.1 hq).1
   ·exact mem_append_right _ hq
theorem ZmA {r : Zc5} (h : r.ok = true) : (⟨r.st, r.next, r.stays, true⟩ : Zc5) = r := by
 cases r; cases h; rfl
theorem ZfA {t : Zd} {d lv : Nat} {st : Za} {list stays : List PtrD} : XC t d 1 lv st list stays = YZ (lv : Int) ((Xv list).length / 4) (Xv list) (Z9 st t d lv) st [] stays := by
 rw [XC]
 split
 ·rename_i hk; rw [Zcm]; exact ZmA hk
 ·rfl
theorem ZmB {st : Za} {t : Zd} {d0 : Nat} {R A cs : List PtrD} (hd0 : t.aw = (d0 : Int)) (h2 : d0 ≤ 2) (hw : Wf st d0 t.af) (hI : Inv st (innL st d0 t.af ++ R)) (hcs : ∀ p ∈ cs, Wf st 0 p) (hc : ∀ i, 8 ≤ i → i < 64 → cnt cs i ≤ cnt A i) (hm : ∀ q ∈ cs, q.hole = true ∨ q ∈ R) {d : Nat} (hd : d = depthN (cs.length : Int)) (hl : cs.length ≤ 16) :
  ((XC t d d 1 st cs []).ok = true → ∃ N z W, LayI st (innL st d0 t.af) R A (cs ++ replicate z PtrD.zero) d W [] (XC t d d 1 st cs []).next (XC t d d 1 st cs []).stays (XC t d d 1 st cs []).st N ∧ Y8 W (innL st d0 t.af) ∧ (XC t d d 1 st cs []).next.length = (if d = 0 then cs.length else 1)) ∧
  ((XC t d d 1 st cs []).ok = false → ∃ N', Inv (XC t d d 1 st cs []).st (N' ++ (innL st d0 t.af ++ R)) ∧ Z1 st (XC t d d 1 st cs []).st (innL st d0 t.af ++ R)) := by
 have hS := LayI.start hI hcs hc hm;have hdd : d ≤ 2 := hd ▸ YK _;rcases (by omega : d = 0 ∨ d = 1 ∨ d = 2) with e | e | e <;> subst e
 ·rw [Zcm]
  exact ⟨fun _ => ⟨[], 0, [], by rw [List.replicate_zero, append_nil]; exact hS, Y8.nil _, rfl⟩, fun e => nomatch e⟩
 ·have hb : 2 ≤ cs.length ∧ cs.length ≤ 4 := by
   unfold depthN at hd; split at hd
   ·omega
   ·split at hd <;> omega
  have hpl := VS cs;have hp4 : (Xv cs).length = 4 * 1 := by omega
  have h1 := hS.pad ((4 - cs.length % 4) % 4);rw [show cs ++ replicate ((4 - cs.length % 4) % 4) PtrD.zero = Xv cs from rfl] at h1;obtain ⟨ho, hwo⟩ := Zel (s := st) (d := 1) (lv := 1) hd0 h2 hw (Z1.refl _ _) (fun q hq => hq) (Nat.le_refl _) (Nat.le_refl _);have hl1 : 1 ≤ (Z9 st t 1 1).length := by unfold Z9; split <;> simp [YC]
  obtain ⟨i1, i2⟩ := ZbW (by omega) h1 hp4 hl1 hwo;have e : (Xv cs).length / 4 = 1 := by omega
  have hU : XC t 1 1 1 st cs [] = YZ ((0 + 1 : Nat) : Int) 1 (Xv cs) (Z9 st t 1 1) st [] [] := by rw [ZfA, e]
  rw [hU];refine ⟨fun hk => ?_, i2⟩;obtain ⟨N', h3, h4⟩ := i1 hk;exact ⟨N', _, _, h3.turn, by rw [nil_append]; exact Zmy hd0 h2 hw 1, h4⟩
 ·have hb : 5 ≤ cs.length := by
   unfold depthN at hd; split at hd
   ·omega
   ·split at hd <;> omega
  have hpl := VS cs;obtain ⟨m, hm1⟩ : ∃ m, (Xv cs).length = 4 * m := ⟨(cs.length + 3) / 4, by omega⟩;have hm4 : 2 ≤ m ∧ m ≤ 4 := by omega
  have h1 := hS.pad ((4 - cs.length % 4) % 4);rw [show cs ++ replicate ((4 - cs.length % 4) % 4) PtrD.zero = Xv cs from rfl] at h1;obtain ⟨ho, hwo⟩ := Zel (s := st) (d := 2) (lv := 1) hd0 h2 hw (Z1.refl _ _) (fun q hq => hq) (Nat.le_refl _) (by omega);have h4l : ∀ k, ((kidsS st t.af k).getD YC).length = 4 := fun k => by
   cases h : kidsS st t.af k with
   | none => rfl
   | some l => exact XW h
  have hl1 : (Z9 st t 2 1).length = 4 := by
   unfold Z9; split
   ·rw [if_neg (by omega), h4l]
   ·rfl
  obtain ⟨i1, i2⟩ := ZbW (by omega) h1 hm1 (by omega) hwo;have e : (Xv cs).length / 4 = m := by omega
  cases hk : (YZ ((0 + 1 : Nat) : Int) m (Xv cs) (Z9 st t 2 1) st [] []).ok with
  | false =>
   have hU : XC t 2 2 1 st cs [] = YZ ((0 + 1 : Nat) : Int) m (Xv cs) (Z9 st t 2 1) st [] [] := by
    rw [XC, e, if_neg (by rw [hk]; exact Bool.false_ne_true)]
   rw [hU];exact ⟨fun e => (by rw [hk] at e; cases e), i2⟩
  | true =>
   obtain ⟨N', h3, h4⟩ := i1 hk;generalize hr1 : YZ ((0 + 1 : Nat) : Int) m (Xv cs) (Z9 st t 2 1) st [] [] = r1 at hk h3 h4;have hU : XC t 2 2 1 st cs [] = XC t 2 1 2 r1.st r1.next r1.stays := by
    rw [XC, e, if_pos (by rw [hr1]; exact hk), hr1]
   have h5 := h3.turn;have hnl : r1.next.length = m := by simpa using h4
   have hpl2 := VS r1.next;have hp4 : (Xv r1.next).length = 4 * 1 := by omega
   have h6 := h5.pad ((4 - r1.next.length % 4) % 4);rw [show r1.next ++ replicate ((4 - r1.next.length % 4) % 4) PtrD.zero = Xv r1.next from rfl] at h6;obtain ⟨ho2, hwo2⟩ := Zel (s := r1.st) (d := 2) (lv := 2) hd0 h2 hw h3.kp (fun q hq => mem_append_left _ hq) (by omega) (Nat.le_refl _);have hl2 : 1 ≤ (Z9 st t 2 2).length := by unfold Z9; split <;> simp [YC]
   obtain ⟨k1, k2⟩ := ZbW (by omega) h6 hp4 (show 1 ≤ (Z9 r1.st t 2 2).length by rw [ho2]; exact hl2) (by rw [ho2]; exact hwo2);have e2 : (Xv r1.next).length / 4 = 1 := by omega
   have hU2 : XC t 2 1 2 r1.st r1.next r1.stays = YZ ((1 + 1 : Nat) : Int) 1 (Xv r1.next) (Z9 r1.st t 2 2) r1.st [] r1.stays := by rw [ZfA, e2]
   rw [hU, hU2];refine ⟨fun hk2 => ?_, k2⟩;obtain ⟨N2, h7, h8⟩ := k1 hk2;refine ⟨N2, (4 - cs.length % 4) % 4 * 4 ^ 0 + (4 - r1.next.length % 4) % 4 * 4 ^ 1, ([] ++ (Z9 st t 2 1).take m) ++ (Z9 r1.st t 2 2).take 1, ?_, ?_, h8⟩
   ·have h9 := h7.turn
    rw [List.append_assoc, List.replicate_append_replicate] at h9;exact h9
   ·rw [ho2, nil_append]; exact Zmz hd0 h2 hw m 1
theorem Zc7 {a : List PtrD} {f : PtrD → Bool} (h : ∀ q ∈ a, f q = true) : a.filter f = a := List.filter_eq_self.2 h
structure ZoA (st : Za) (cs R Q : List PtrD) (many : Nat) (r : JU) : Prop where
  t : r.t.aw = ((depthN (many : Int) : Nat) : Int) ∧ r.t.ah = (many : Int)
  wf : Wf r.st (depthN (many : Int)) r.t.af
  lv : ∃ z, lvL r.st (depthN (many : Int)) r.t.af = cs ++ replicate z PtrD.zero
  inv : Inv r.st (allL r.st (depthN (many : Int)) r.t.af ++ Q)
  kp : Z1 st r.st R
theorem ZhG {st : Za} {t : Zd} {d0 : Nat} {R Q cs leaves : List PtrD} (hd0 : t.aw = (d0 : Int)) (h2 : d0 ≤ 2) (hw : Wf st d0 t.af) (hI : Inv st (innL st d0 t.af ++ R)) {many : Nat} (hcl : leaves.take many = cs) (hn : cs.length = many) (hl : many ≤ 16) (hcs : ∀ p ∈ cs, Wf st 0 p) (hm : ∀ q ∈ cs, q.hole = true ∨ q ∈ R) (hQ : ∀ i, 8 ≤ i → i < 64 → cnt cs i + cnt Q i ≤ cnt R i) :
  ((Xy st t leaves many).ok = true → ZoA st cs R Q many (Xy st t leaves many)) ∧ ((Xy st t leaves many).ok = false → Inv (Xy st t leaves many).st (innL st d0 t.af ++ R) ∧ Z1 st (Xy st t leaves many).st (innL st d0 t.af ++ R)) := by
 have hU := ZmB (A := cs) hd0 h2 hw hI hcs (fun i _ _ => Nat.le_refl _) hm (d := depthN (many : Int)) (by rw [hn]) (by omega);have hdd := YK (many : Int);generalize hdn : depthN (many : Int) = d at hU hdd;generalize hr : XC t d d 1 st cs [] = r at hU;have hrt : XC t (depthN (many : Int)) (depthN (many : Int)) 1 st (leaves.take many) [] = r := by rw [hdn, hcl]; exact hr
 have hO := Za.ok_spec hI.ok;have hin := ZkD hd0 h2 hw;obtain ⟨s, ls, sy, ok⟩ := r
 cases ok with
 | false =>
  rw [Zjt hrt];refine ⟨fun e => (nomatch e), fun _ => ?_⟩;obtain ⟨N', i1, i2⟩ := hU.2 rfl;exact ⟨i1.mono fun i _ _ => by rw [Zj N']; omega, i2⟩
 | true =>
  rw [Zeb hrt, hdn];refine ⟨fun _ => ?_, fun e => (nomatch e)⟩;obtain ⟨N, z, W, hL, hSW, hlen⟩ := hU.1 rfl;dsimp only at hL hlen;have hio : ∀ p ∈ innL st d0 t.af, p.ok = true := fun p hp => (UA hw p (ZhF hw p hp)).1
  have hI2 : Inv s (innL st d0 t.af ++ (N ++ R)) := hL.inv.mono fun i _ _ => by
   simp only [Zj]; omega
  obtain ⟨f1, f2⟩ := Zco (sy := sy) hI2 hio;have hsO := Za.ok_spec hL.inv.ok
  -- the root
  have hroot : ∃ z, Wf s d (ls.headD PtrD.zero) ∧ lvL s d (ls.headD PtrD.zero) = cs ++ replicate z PtrD.zero ∧ (∀ i, 8 ≤ i → i < 64 → cnt (allL s d (ls.headD PtrD.zero)) i ≤ cnt N i + cnt sy i + cnt cs i) ∧ ∀ q ∈ allL s d (ls.headD PtrD.zero), q ∈ N ∨ (q ∈ sy ∧ q ∈ innL st d0 t.af) ∨ q ∈ R := by
   have hlv := hL.lvs; have hac := hL.acc; have hmm := hL.mem; have hwb := hL.wfb;rw [flatMap_nil, nil_append] at hlv;simp only [flatMap_nil, nil_append] at hac hmm
   cases hls : ls with
   | nil =>
    rw [hls] at hlen hlv;have hd0 : d = 0 := by
     by_cases e : d = 0
     ·exact e
     ·rw [if_neg e] at hlen; cases hlen
    subst hd0;rw [if_pos rfl] at hlen;have hcn : cs = [] := List.length_eq_zero_iff.1 hlen.symm;subst hcn;refine ⟨1, Wf.zero (by have := hsO.txg; omega) 0, rfl, fun i h8 _ => ?_, fun q hq => ?_⟩
    ·show cnt (allL s 0 PtrD.zero) i ≤ _
     rw [ZT XS, Jg]; omega
    ·rw [show allL s 0 (([] : List PtrD).headD PtrD.zero) = [] from ZT XS 0] at hq; cases hq
   | cons p r2 =>
    rw [hls] at hlen hlv hac hmm hwb;have hr2 : r2 = [] := by
     have h1 : ∀ k : Nat, (p :: r2).length = k → k ≤ 1 → r2 = [] := fun k hk hk1 => by
      cases r2 with
      | nil => rfl
      | cons _ _ => simp at hk; omega
     refine h1 _ hlen ?_
     split
     ·rename_i e
      have : (many : Int) ≤ 1 := by
       unfold depthN at hdn
       split at hdn
       ·assumption
       ·split at hdn <;> omega
      omega
     ·exact Nat.le_refl _
    subst hr2;refine ⟨z, hwb p (mem_cons_self ..), ?_, fun i h8 hi => ?_, fun q hq => ?_⟩
    ·rw [flatMap_cons, flatMap_nil, append_nil] at hlv; exact hlv
    ·have := hac i h8 hi
     rw [flatMap_cons, flatMap_nil, append_nil] at this; exact this
    ·exact hmm q (by rw [flatMap_cons, flatMap_nil, append_nil]; exact hq)
  obtain ⟨z, hwr, hlr, hcr, hmr⟩ := hroot;have hkept : ∀ q ∈ sy, Q0 sy q = true := fun q hq => List.any_eq_true.2 ⟨q, hq, PtrD.eqv_iff.2 rfl⟩
  have hsub : ∀ i, 8 ≤ i → cnt sy i ≤ cnt ((innL st d0 t.af).filter (Q0 sy)) i := fun i hi => by
   have h1 := (hL.sty.trans hSW) (Q0 sy) i hi
   rwa [Zc7 hkept] at h1
  have hmem : ∀ q ∈ allL s d (ls.headD PtrD.zero), q ∈ (innL st d0 t.af).filter (Q0 sy) ++ (N ++ R) := fun q hq => by
   rcases hmr q hq with h | ⟨h, h3⟩ | h
   ·exact mem_append_right _ (mem_append_left _ h)
   ·exact mem_append_left _ (List.mem_filter.2 ⟨h3, hkept q h⟩)
   ·exact mem_append_right _ (mem_append_right _ h)
  rw [hin];obtain ⟨w1, w2, w3⟩ := hwr.rows f2.rows hmem;refine ⟨⟨by rw [hdn], rfl⟩, by rw [hdn]; exact w1, ⟨z, by rw [hdn]; exact w3.trans hlr⟩, ?_, ?_⟩
  ·rw [hdn]
   show Inv _ (allL (Vj sy (innL st d0 t.af) s) d (ls.headD PtrD.zero) ++ Q);rw [w2];refine f1.mono fun i h8 hi => ?_;have h1 := hcr i h8 hi; have h3 := hsub i h8; have h4 := hQ i h8 hi;simp only [Zj]; omega
  ·exact (hL.kp.mono fun q hq => mem_append_right _ hq).trans (f2.mono fun q hq => mem_append_right _ (mem_append_right _ hq))
structure TV (st : Za) (t : Zd) : Prop where
  many : 0 ≤ t.ah ∧ t.ah ≤ 16
  dep : t.aw = ((depthN t.ah : Nat) : Int)
  wf : Wf st (depthN t.ah) t.af
  out : ∀ j, t.ah.toNat ≤ j → ((lvL st (depthN t.ah) t.af).getD j PtrD.zero).hole = true
noncomputable def Zd.ps (st : Za) (t : Zd) : List PtrD := lvL st (depthN t.ah) t.af
noncomputable def Zd.all (st : Za) (t : Zd) : List PtrD := allL st (depthN t.ah) t.af
noncomputable def Zd.tx (st : Za) (t : Zd) : List ByteArray := (Zn (t.ps st)).map (Zm st)
theorem TV.len {st : Za} {t : Zd} (h : TV st t) : (t.ps st).length = 4 ^ depthN t.ah ∧ (t.ps st).length ≤ 16 ∧ t.ah.toNat ≤ (t.ps st).length := by
 have h1 := Zgc h.wf;have h2 := Zl4 (YK t.ah);have h3 := ZaN h.many.2;have e : (t.ps st).length = 4 ^ depthN t.ah := h1;have := h.many;exact ⟨e, by omega, by omega⟩
theorem TV.wide {st : Za} {t : Zd} (h : TV st t) : (Zn (t.ps st)).length = 16 := Uz h.len.2.1
theorem VU {x : List PtrD} {q : PtrD} (h : q ∈ Zn x) : q ∈ x ∨ q.hole = true := by
 unfold Zn at h;rcases mem_append.1 h with h | h
 ·exact .inl h
 ·rw [(mem_replicate.1 h).2]; exact .inr rfl
theorem ZhH {x : List PtrD} {i : Nat} (hi : 8 ≤ i) : cnt (Zn x) i = cnt x i := by
 unfold Zn; rw [Zj, Zjw _ _ hi]; rfl
theorem TV.leaf {st : Za} {t : Zd} (h : TV st t) (h0 : 0 ≤ st.ar) : ∀ q ∈ Zn (t.ps st), Wf st 0 q := fun q hq => by
 rcases VU hq with hq | hq
 ·exact ZbG h.wf q hq
 ·exact Znv h0 hq
theorem TV.rows {st s : Za} {t : Zd} {X : List PtrD} (h : TV st t) (hr : Rows st s X) (hs : ∀ q ∈ t.all st, q ∈ X) : TV s t ∧ t.all s = t.all st ∧ t.ps s = t.ps st ∧ t.tx s = t.tx st := by
 obtain ⟨w1, w2, w3⟩ := h.wf.rows hr hs;have e3 : t.ps s = t.ps st := w3;refine ⟨⟨h.many, h.dep, w1, fun j hj => by rw [w3]; exact h.out j hj⟩, w2, w3, ?_⟩;unfold Zd.tx;rw [e3];refine List.map_congr_left fun q hq => Zag fun hh => ?_;rcases VU hq with hq | hq
 ·rcases Zjx h.wf q hq with h1 | h1
  ·rw [hh] at h1; cases h1
  ·exact hr.row q (hs q h1) (UA h.wf q h1).1 hh
 ·rw [hh] at hq; cases hq
theorem Zem {st : Za} {many : Int} : ∀ {l : List PtrD} {i : Nat}, (∀ q ∈ l, Wf st 0 q) → (∀ j, many ≤ ((i + j : Nat) : Int) → (l.getD j PtrD.zero).hole = true) → QW st many i l = true
 | [], _, _, _ => rfl
 | q :: r, i, h, ho => by
  have hq := h q (mem_cons_self ..);show (Zg8 st many i q && QW st many (i + 1) r) = true;rw [Zem (fun x hx => h x (mem_cons_of_mem _ hx)) (fun j hj => by have := ho (j + 1) (by omega); simpa using this), Bool.and_true];unfold Zg8
  cases hh : q.hole with
  | true => show (q.aq == 0) = true; rw [ZdH hh]; rfl
  | false =>
   show (XB st q && ((q.aq == 0) && decide ((i : Int) < many))) = true;rw [hq.2.2.2, hq.2.2.1]
   by_cases hi : (i : Int) < many
   ·rw [decide_eq_true hi]; rfl
   ·have := ho 0 (by omega)
    rw [List.getD_cons_zero, hh] at this; cases this
theorem TV.treeX {st : Za} {t : Zd} (h : TV st t) (h0 : 0 ≤ st.ar) : TreeX st t (t.ps st) ((t.ps st).take t.ah.toNat) := by
 have hl := h.len;have hok := h.wf.ok;have hx : ∀ p ∈ t.ps st, p.ok = true := fun p hp => (ZbG h.wf p hp).1
 have hd := Zjz (st := st) (l := [t.af]) (n := depthN t.ah) fun p hp => by rw [mem_singleton.1 hp]; exact h.wf
 rw [flatMap_cons, flatMap_nil, append_nil] at hd;have hd2 := (U2 (st := st) (n := depthN t.ah) (l := [t.af]) (fun p hp => by rw [mem_singleton.1 hp]; exact hok) h0).1;refine ⟨hd, h.dep, hl.2.1, hx, ?_, ?_, h.many, ?_⟩
 ·refine VH (l := t.ps st) ?_ (hd2.symm.trans hd) (Zem (fun q hq => ZbG h.wf q hq) fun j hj => h.out j (by omega))
  unfold topB;rw [XF h.many.1 h.many.2, hok.1, decide_eq_true hok.2, h.dep]; simp
 ·rw [length_take]; omega
 ·unfold Zn
  rw [List.take_append_of_le_length (by omega)]
theorem Zen {st : Za} : ∀ {n : Nat} {p : PtrD}, Wf st n p → ∀ q ∈ allL st n p, q ∈ innL st n p ∨ q ∈ lvL st n p
 | 0, p, _, q, hq => by
  cases hh : p.hole with
  | true => rw [ZT hh] at hq; cases hq
  | false => rw [Qn hh] at hq; exact .inr hq
 | n + 1, p, ⟨ho, hb, l, hk, hw⟩, q, hq => by
  cases hh : p.hole with
  | true => rw [ZT hh] at hq; cases hq
  | false =>
   rw [YP hh hk] at hq;rw [Xi hh hk, QF hk];rcases mem_cons.1 hq with rfl | hq
   ·exact .inl (mem_cons_self ..)
   ·obtain ⟨k, hkl, hq⟩ := List.mem_flatMap.1 hq
    rcases Zen (hw k hkl) q hq with h | h
    ·exact .inl (mem_cons_of_mem _ (List.mem_flatMap.2 ⟨k, hkl, h⟩))
    ·exact .inr (List.mem_flatMap.2 ⟨k, hkl, h⟩)
theorem ZnH {l : List PtrD} {k : Nat} (hk : k < l.length) (p : PtrD) (i : Nat) : cnt (l.set k p) i + cnt [l.getD k PtrD.zero] i = cnt l i + cnt [p] i := by
 induction l generalizing k with
 | nil => simp at hk
 | cons a r ih =>
  cases k with
  | zero =>
   rw [List.set_cons_zero, List.getD_cons_zero, show p :: r = [p] ++ r from rfl, show a :: r = [a] ++ r from rfl, Zj, Zj]; omega
  | succ k =>
   have := ih (k := k) (by simpa using hk);rw [List.set_cons_succ, List.getD_cons_succ, show a :: r.set k p = [a] ++ r.set k p from rfl, show a :: r = [a] ++ r from rfl, Zj, Zj]; omega
theorem ZoB {st : Za} {X : List PtrD} {text : ByteArray} {level : Int} (hI : Inv st X) (hsz : inB (text.size : Int) 1 128 = true) (hlv : inB level 0 2 = true) :
  ((Yu st text level).ok = true → Inv (Yu st text level).st ((Yu st text level).p :: X) ∧ Z1 st (Yu st text level).st X ∧ (Yu st text level).p.ok = true ∧ (Yu st text level).p.hole = false ∧ (Yu st text level).p.aj = st.ar ∧ (Yu st text level).p.aq = level ∧ XB (Yu st text level).st (Yu st text level).p = true ∧ Zm (Yu st text level).st (Yu st text level).p = text) ∧
  ((Yu st text level).ok = false → (Yu st text level).st = st) := by
 by_cases hi : writeAt st text level < 64
 ·obtain ⟨h1, h2, h3⟩ := hI.write hsz hlv hi rfl
  have hpo := Zgp hI.ok hsz hlv hi rfl;have hph : (YM (writeAt st text level : Int) st.ar level text).hole = false := by
   cases hh : (YM (writeAt st text level : Int) st.ar level text).hole with
   | false => rfl
   | true =>
    have e : (YM (writeAt st text level : Int) st.ar level text).aj = 0 := ZdI hh;have e2 : (YM (writeAt st text level : Int) st.ar level text).aj = st.ar := rfl;have := (Za.ok_spec hI.ok).txg
    omega
  have hfit : X3 (YM (writeAt st text level : Int) st.ar level text) text = true := by
   unfold X3; rw [hpo, hph];show (true && (true && (((text.size : Int)) == (text.size : Int) && (Us text == Us text)))) = true
   simp
  rw [JV hi rfl];refine ⟨fun _ => ⟨h1, h2, hpo, hph, rfl, rfl, ?_, ?_⟩, fun e => nomatch e⟩
  ·rw [QD hph, h3]; exact hfit
  ·rw [Jn hph (by rw [h3]; exact hfit), h3]
 ·rw [UI (by have := JT st text level; omega)]
  exact ⟨fun e => (nomatch e), fun _ => rfl⟩
theorem ZmC {st : Za} {X : List PtrD} {old : PtrD} {text : ByteArray} (hI : Inv st X) (htl : text.size ≤ 128) (hold : Wf st 0 old) :
  ((Xz st old text).ok = true → ∃ P1, Inv (Xz st old text).st (P1 ++ X) ∧ Z1 st (Xz st old text).st X ∧ Wf (Xz st old text).st 0 (Xz st old text).p ∧ Zm (Xz st old text).st (Xz st old text).p = text ∧ ((P1 = [] ∧ (Xz st old text).p = old) ∨ (P1 = [] ∧ (Xz st old text).p = PtrD.zero) ∨ P1 = [(Xz st old text).p])) ∧
  ((Xz st old text).ok = false → (Xz st old text).st = st) := by
 cases h : ((Zm st old).toList == text.toList) with
 | true =>
  rw [UJ h];exact ⟨fun _ => ⟨[], hI, Z1.refl _ _, hold, XY h, .inl ⟨rfl, rfl⟩⟩, fun e => nomatch e⟩
 | false =>
  by_cases h0 : text.size = 0
  ·rw [Zai h h0]
   have e : text = ByteArray.empty := ByteArray.ext (Array.eq_empty_of_size_eq_zero h0);exact ⟨fun _ => ⟨[], hI, Z1.refl _ _, Wf.zero (show (0 : Int) ≤ st.ar by have := (Za.ok_spec hI.ok).txg; omega) 0, by rw [e]; exact Y1 rfl, .inr (.inl ⟨rfl, rfl⟩)⟩, fun e => nomatch e⟩
  ·rw [VT h h0]
   obtain ⟨w1, w2⟩ := ZoB (text := text) (level := 0) hI (XF (by omega) (by omega)) rfl;refine ⟨fun hk => ?_, w2⟩;obtain ⟨a1, a2, a3, a4, a5, a6, a7, a8⟩ := w1 hk;exact ⟨[_], a1, a2, ⟨a3, by rw [a5, a2.txg]; exact Int.le_refl _, a6, a7⟩, a8, .inr (.inr rfl)⟩
theorem ZiG {st : Za} {t : Zd} (h : TV st t) : (t.tx st).length = 16 := by unfold Zd.tx; rw [length_map, h.wide]
theorem Zeo {st : Za} {t : Zd} (h : TV st t) {k : Nat} (hk : k < 16) : (t.tx st).getD k ByteArray.empty = Zm st ((Zn (t.ps st)).getD k PtrD.zero) := by
 unfold Zd.tx;have := h.wide;rw [getD_eq_getElem?_getD, getD_eq_getElem?_getD, List.getElem?_map, List.getElem?_eq_getElem (by omega)]; rfl
theorem ZmD {l : List ByteArray} {k : Nat} {x : ByteArray} (h : l.getD k ByteArray.empty = x) (hk : k < l.length) : l.set k x = l := by
 rw [getD_eq_getElem?_getD, List.getElem?_eq_getElem hk] at h;have h : l[k] = x := h;rw [← h, List.set_getElem_self]
theorem Zep {st : Za} {t : Zd} (h : TV st t) {j : Nat} (hj : t.ah.toNat ≤ j) : ((Zn (t.ps st)).getD j PtrD.zero).hole = true := by
 unfold Zn
 by_cases hl : j < (t.ps st).length
 ·rw [getD_eq_getElem?_getD, List.getElem?_append_left hl, ← getD_eq_getElem?_getD]; exact h.out j hj
 ·rw [getD_eq_getElem?_getD, List.getElem?_append_right (by omega), ← getD_eq_getElem?_getD, getD_eq_getElem?_getD, List.getElem?_replicate]
  split <;> rfl
theorem ZkE {l : List PtrD} (h : ∀ j, j < l.length → (l.getD j PtrD.zero).hole = true) : l = replicate l.length PtrD.zero := by
 refine List.ext_getElem (by simp) fun j h1 h2 => ?_;rw [List.getElem_replicate];have := YI (h j h1);rw [getD_eq_getElem?_getD, List.getElem?_eq_getElem h1] at this;exact this
theorem ZoA.tv {st : Za} {cs R Q : List PtrD} {many : Nat} {r : JU} (h : ZoA st cs R Q many r) (hn : cs.length = many) (hm : many ≤ 16) : TV r.st r.t ∧ Zn (r.t.ps r.st) = cs ++ replicate (16 - many) PtrD.zero := by
 obtain ⟨hd, hmm⟩ := h.t;obtain ⟨z, hz⟩ := h.lv;have hps : r.t.ps r.st = cs ++ replicate z PtrD.zero := by unfold Zd.ps; rw [hmm]; exact hz
 refine ⟨⟨by omega, by rw [hmm]; exact hd, by rw [hmm]; exact h.wf, fun j hj => ?_⟩, ?_⟩
 ·rw [hmm, hz, getD_eq_getElem?_getD, List.getElem?_append_right (by omega), List.getElem?_replicate]
  split <;> rfl
 ·have hl : (r.t.ps r.st).length ≤ 16 := by
   have h1 := Zgc h.wf;have h2 := Zl4 (YK (many : Int));unfold Zd.ps; rw [hmm]; omega
  unfold Zn;rw [hps] at hl ⊢;rw [length_append, List.length_replicate] at hl;rw [List.append_assoc, List.replicate_append_replicate, length_append, List.length_replicate]
  congr 2; omega
section
variable {st : Za} {t : Zd} {R : List PtrD} {k : Nat} {text : ByteArray}
structure Zok (st : Za) (t : Zd) (R : List PtrD) (many : Int) (tx : List ByteArray) (r : JU) : Prop where
  tv : TV r.st r.t
  inv : Inv r.st (r.t.all r.st ++ R)
  kp : Z1 st r.st R
  many : r.t.ah = many
  tx : r.t.tx r.st = tx
structure ZmE (st : Za) (t : Zd) (R : List PtrD) (r : JU) : Prop where
  inv : Inv r.st (t.all st ++ R)
  kp : Z1 st r.st (t.all st ++ R)
  t : r.t = t ∨ r.t = tree0
theorem VV (hI : Inv st (t.all st ++ R)) (hT : TV st t) (hk : k < 16) (htl : text.size ≤ 128) :
  ((Y9 st t (t.ps st) k text).ok = true → Zok st t R (max t.ah ((k : Int) + 1)) ((t.tx st).set k text) (Y9 st t (t.ps st) k text)) ∧
  ((Y9 st t (t.ps st) k text).ok = false → ZmE st t R (Y9 st t (t.ps st) k text)) := by
 have h0 : 0 ≤ st.ar := by have := (Za.ok_spec hI.ok).txg; omega
 have hwl := hT.wide;have hmm := hT.many;obtain ⟨old, hold⟩ : ∃ o, (Zn (t.ps st)).getD k PtrD.zero = o := ⟨_, rfl⟩;have holdm : old ∈ Zn (t.ps st) := hold ▸ YD (by omega);obtain ⟨many, hmx⟩ : ∃ m : Nat, max t.ah ((k : Int) + 1) = (m : Int) := ⟨(max t.ah ((k : Int) + 1)).toNat, by omega⟩;have hm16 : many ≤ 16 := by omega
 have hownt : Zm st old = (t.tx st).getD k ByteArray.empty := by rw [Zeo hT hk, hold]
 by_cases hst : ((Zm st old).toList == text.toList) = true ∧ (many : Int) = t.ah
 ·rw [Zec hold hst.1 (hmx.trans hst.2)]
  refine ⟨fun _ => ⟨hT, hI, Z1.refl _ _, (hmx.trans hst.2).symm, ?_⟩, fun e => nomatch e⟩;exact (ZmD (hownt.symm.trans (XY hst.1)) (by rw [ZiG hT]; exact hk)).symm
 ·obtain ⟨pv1, pv2⟩ := ZmC (X := t.all st ++ R) hI htl (hT.leaf h0 old holdm)
  cases hpk : (Xz st old text).ok with
  | false =>
   cases hsame : ((Zm st old).toList == text.toList) with
   | true => rw [UJ hsame] at hpk; cases hpk
   | false =>
    rw [Zfu hold hsame (UK hpk)];exact ⟨fun e => (nomatch e), fun _ => ⟨hI, Z1.refl _ _, .inl rfl⟩⟩
  | true =>
   obtain ⟨P1, hI1, hK1, hwp, hrt, hP1⟩ := pv1 hpk;have hlay := X6 hold hmx hst (UK hpk);generalize hs : (Xz st old text).st = s at hI1 hK1 hwp hrt hlay;generalize hp : (Xz st old text).p = p at hP1 hwp hrt hlay;obtain ⟨tv1, ta1, tp1, tx1⟩ := hT.rows hK1.rows (X := t.all st ++ R) (fun q hq => mem_append_left _ hq);have h0s : 0 ≤ s.ar := by rw [hK1.txg]; exact h0
   have hcn := Zej tv1.wf;have hta : t.all st = allL s (depthN t.ah) t.af := ta1.symm;have htp : t.ps st = lvL s (depthN t.ah) t.af := tp1.symm
   -- the places laid out
   have hLl : ((Zn (t.ps st)).set k p).length = 16 := by rw [length_set]; exact hwl
   have hcl : (((Zn (t.ps st)).set k p).take many).length = many := by rw [length_take]; omega
   have hLm : ∀ q ∈ (Zn (t.ps st)).set k p, q ∈ Zn (t.ps st) ∨ q = p := fun q hq => List.mem_or_eq_of_mem_set hq
   have hcs : ∀ q ∈ ((Zn (t.ps st)).set k p).take many, Wf s 0 q := fun q hq => by
    rcases hLm q (List.mem_of_mem_take hq) with h | rfl
    ·exact tv1.leaf h0s q (by rw [tp1]; exact h)
    ·exact hwp
   have hpm : p.hole = true ∨ p ∈ P1 ++ (t.ps st ++ R) := by
    rcases hP1 with ⟨_, rfl⟩ | ⟨_, rfl⟩ | rfl
    ·rcases VU holdm with h | h
     ·exact .inr (mem_append_right _ (mem_append_left _ h))
     ·exact .inl h
    ·exact .inl rfl
    ·exact .inr (mem_append_left _ (mem_singleton.2 rfl))
   have hm2 : ∀ q ∈ (Zn (t.ps st)).set k p, q.hole = true ∨ q ∈ P1 ++ (t.ps st ++ R) := fun q hq => by
    rcases hLm q hq with h | rfl
    ·rcases VU h with h | h
     ·exact .inr (mem_append_right _ (mem_append_left _ h))
     ·exact .inl h
    ·exact hpm
   have hI2 : Inv s (innL s (depthN t.ah) t.af ++ (P1 ++ (t.ps st ++ R))) := hI1.mono fun i h8 _ => by
    have := hcn i h8;rw [← hta, ← htp] at this;simp only [Zj]; omega
   have hQ : ∀ i, 8 ≤ i → i < 64 → cnt (((Zn (t.ps st)).set k p).take many) i + cnt ((if p.eqv old = true then [] else [old]) ++ R) i ≤ cnt (P1 ++ (t.ps st ++ R)) i := fun i h8 _ => by
    have h1 := Zgn (List.take_sublist many ((Zn (t.ps st)).set k p)) i;have h2 := ZnH (l := Zn (t.ps st)) (k := k) (by omega) p i;rw [hold, ZhH h8] at h2;simp only [Zj];have h3 : cnt [PtrD.zero] i = 0 := ZbU rfl h8
    by_cases he : p.eqv old = true
    ·rw [if_pos he, Jg]
     have e : p = old := PtrD.eqv_iff.1 he;rw [e] at h2 h1 ⊢
     omega
    ·rw [if_neg he]
     rcases hP1 with ⟨_, e⟩ | ⟨_, e⟩ | e
     ·exact absurd (PtrD.eqv_iff.2 e) he
     ·rw [e] at h1 h2 ⊢; omega
     ·rw [e]; omega
   have hl := ZhG (Q := (if p.eqv old = true then [] else [old]) ++ R) tv1.dep (YK _) tv1.wf hI2 (many := many) (leaves := (Zn (t.ps st)).set k p) rfl hcl hm16 hcs (fun q hq => hm2 q (List.mem_of_mem_take hq)) hQ;rw [hlay]
   cases hlk : (Xy s t ((Zn (t.ps st)).set k p) many).ok with
   | false =>
    rw [if_neg Bool.false_ne_true];refine ⟨fun e => (by rw [hlk] at e; cases e), fun _ => ?_⟩;obtain ⟨i1, i2⟩ := hl.2 hlk;refine ⟨i1.mono fun i h8 _ => ?_, hK1.trans (i2.mono fun q hq => ?_), ?_⟩
    ·have := hcn i h8
     rw [← hta, ← htp] at this;simp only [Zj]; omega
    ·rcases mem_append.1 hq with hq | hq
     ·rw [hta] at hq
      rcases Zen tv1.wf q hq with h | h
      ·exact mem_append_left _ h
      ·rw [← htp] at h; exact mem_append_right _ (mem_append_right _ (mem_append_left _ h))
     ·exact mem_append_right _ (mem_append_right _ (mem_append_right _ hq))
    ·right
     unfold Xy at hlk ⊢
     split at hlk
     ·cases hlk
     ·rw [if_neg (by assumption)]
   | true =>
    rw [if_pos rfl];refine ⟨fun _ => ?_, fun e => nomatch e⟩;have hL := hl.1 hlk;generalize hr1 : Xy s t ((Zn (t.ps st)).set k p) many = r1 at hL;obtain ⟨tvr, hwr⟩ := hL.tv hcl hm16
    -- what lies behind is holes
    have hrest : ((Zn (t.ps st)).set k p).drop many = replicate (16 - many) PtrD.zero := by
     have h1 := ZkE (l := ((Zn (t.ps st)).set k p).drop many) fun j hj => by
      rw [List.length_drop] at hj;rw [getD_eq_getElem?_getD, List.getElem?_drop, List.getElem?_set_ne (by omega), ← getD_eq_getElem?_getD];exact Zep hT (by omega)
     rw [h1, List.length_drop, hLl]
    have hwide : Zn (r1.t.ps r1.st) = (Zn (t.ps st)).set k p := by
     rw [hwr, ← hrest, List.take_append_drop]
    have htx : r1.t.tx r1.st = (t.tx st).set k text := by
     unfold Zd.tx;rw [hwide, ← hrt, show (Zn (t.ps st)).map (Zm st) = (Zn (t.ps st)).map (Zm s) from by
      have := tx1; unfold Zd.tx at this; rw [tp1] at this; exact this.symm, ← List.map_set]
     refine List.map_congr_left fun q hq => Zag fun hh => ?_;rcases hm2 q hq with h | h
     ·rw [hh] at h; cases h
     ·refine hL.kp.row q h ?_ hh
      rcases hLm q hq with h | rfl
      ·exact (tv1.leaf h0s q (by rw [tp1]; exact h)).1
      ·exact hwp.1
    have hkR : Z1 st r1.st R := (hK1.mono fun q hq => mem_append_right _ hq).trans (hL.kp.mono fun q hq => mem_append_right _ (mem_append_right _ hq));have hmany : r1.t.ah = max t.ah ((k : Int) + 1) := by rw [hL.t.2, hmx]
    have hall : allL r1.st (depthN (many : Int)) r1.t.af = r1.t.all r1.st := by unfold Zd.all; rw [hL.t.2]
    have hinv := hL.inv;rw [hall] at hinv
    by_cases he : p.eqv old = true
    ·rw [if_pos he] at hinv ⊢
     exact ⟨tvr, hinv, hkR, hmany, htx⟩
    ·rw [if_neg he] at hinv ⊢
     have hf := Inv.free (p := old) (X := r1.t.all r1.st ++ R) (hinv.mono fun i _ _ => by rw [YT]; simp only [Zj, YT, Jg]; omega) (tv1.leaf h0s old (by rw [tp1]; exact holdm)).1;obtain ⟨tv3, ta3, tp3, tx3⟩ := tvr.rows hf.2.rows (fun q hq => mem_append_left _ hq);exact ⟨tv3, by rw [ta3]; exact hf.1, hkR.trans (hf.2.mono fun q hq => mem_append_right _ hq), hmany, tx3.trans htx⟩
end
theorem Ug : ∀ {l Y : List PtrD} {s : Za}, Inv s (l ++ Y) → (∀ p ∈ l, p.ok = true) → Inv (X8 l s) Y ∧ Z1 s (X8 l s) Y
 | [], Y, s, h, _ => ⟨h, Z1.refl _ _⟩
 | p :: r, Y, s, h, ho => by
  rw [List.cons_append] at h;obtain ⟨j1, j2⟩ := Inv.free h (ho p (mem_cons_self ..));obtain ⟨i1, i2⟩ := Ug j1 fun q hq => ho q (mem_cons_of_mem _ hq)
  exact ⟨i1, (j2.mono fun q hq => mem_append_right _ hq).trans i2⟩
theorem Zeq {st : Za} {t : Zd} {R : List PtrD} {many : Nat} (hI : Inv st (t.all st ++ R)) (hT : TV st t) (hm : (many : Int) ≤ t.ah) :
  ((QL st t (t.ps st) many).ok = true → Zok st t R (many : Int) ((t.tx st).take many ++ replicate (16 - many) ByteArray.empty) (QL st t (t.ps st) many)) ∧
  ((QL st t (t.ps st) many).ok = false → ZmE st t R (QL st t (t.ps st) many)) := by
 have h0 : 0 ≤ st.ar := by have := (Za.ok_spec hI.ok).txg; omega
 have hwl := hT.wide;have hmm := hT.many;have hm16 : many ≤ 16 := by omega
 have htl := ZiG hT
 by_cases he : (many : Int) = t.ah
 ·have e : QL st t (t.ps st) many = ⟨st, t, true⟩ := by unfold QL; rw [if_pos he]
  rw [e];refine ⟨fun _ => ⟨hT, hI, Z1.refl _ _, he.symm, ?_⟩, fun e => nomatch e⟩;have hd : (t.tx st).drop many = replicate (16 - many) ByteArray.empty := by
   refine List.ext_getElem (by rw [List.length_drop, List.length_replicate]; omega) fun j h1 h2 => ?_;rw [List.length_replicate] at h2;rw [List.getElem_drop, List.getElem_replicate];have := Zeo hT (k := many + j) (by omega);rw [Y1 (Zep hT (by omega)), getD_eq_getElem?_getD, List.getElem?_eq_getElem (by omega)] at this;exact this
  rw [← hd, List.take_append_drop]
 ·have hcn := Zej hT.wf
  have hta : t.all st = allL st (depthN t.ah) t.af := rfl;have htp : t.ps st = lvL st (depthN t.ah) t.af := rfl;have hcl : ((Zn (t.ps st)).take many).length = many := by rw [length_take]; omega
  have hm2 : ∀ q ∈ Zn (t.ps st), q.hole = true ∨ q ∈ t.ps st ++ R := fun q hq => by
   rcases VU hq with h | h
   ·exact .inr (mem_append_left _ h)
   ·exact .inl h
  have hI2 : Inv st (innL st (depthN t.ah) t.af ++ (t.ps st ++ R)) := hI.mono fun i h8 _ => by
   have := hcn i h8;rw [← hta, ← htp] at this;simp only [Zj]; omega
  have hl := ZhG (Q := (Zn (t.ps st)).drop many ++ R) hT.dep (YK _) hT.wf hI2 (many := many) (leaves := Zn (t.ps st)) rfl hcl hm16 (fun q hq => hT.leaf h0 q (List.mem_of_mem_take hq)) (fun q hq => hm2 q (List.mem_of_mem_take hq)) (fun i h8 _ => by
   have h1 : cnt (Zn (t.ps st)) i = cnt ((Zn (t.ps st)).take many) i + cnt ((Zn (t.ps st)).drop many) i := by rw [← Zj, List.take_append_drop]
   rw [ZhH h8] at h1;simp only [Zj]; omega)
  cases hlk : (Xy st t (Zn (t.ps st)) many).ok with
  | false =>
   have e : QL st t (t.ps st) many = ⟨(Xy st t (Zn (t.ps st)) many).st, t, false⟩ := by unfold QL; rw [if_neg he, if_neg (by rw [hlk]; exact Bool.false_ne_true)]
   rw [e];refine ⟨fun e => (nomatch e), fun _ => ?_⟩;obtain ⟨i1, i2⟩ := hl.2 hlk;refine ⟨i1.mono fun i h8 _ => ?_, i2.mono fun q hq => ?_, .inl rfl⟩
   ·have := hcn i h8
    rw [← hta, ← htp] at this;simp only [Zj]; omega
   ·rcases mem_append.1 hq with hq | hq
    ·rcases Zen hT.wf q hq with h | h
     ·exact mem_append_left _ h
     ·exact mem_append_right _ (mem_append_left _ h)
    ·exact mem_append_right _ (mem_append_right _ hq)
  | true =>
   have e : QL st t (t.ps st) many = ⟨X8 ((Zn (t.ps st)).drop many) (Xy st t (Zn (t.ps st)) many).st, (Xy st t (Zn (t.ps st)) many).t, true⟩ := by unfold QL; rw [if_neg he, if_pos hlk]
   rw [e];refine ⟨fun _ => ?_, fun e => nomatch e⟩;have hL := hl.1 hlk;generalize hr1 : Xy st t (Zn (t.ps st)) many = r1 at hL;obtain ⟨tvr, hwr⟩ := hL.tv hcl hm16;have htx : r1.t.tx r1.st = (t.tx st).take many ++ replicate (16 - many) ByteArray.empty := by
    unfold Zd.tx;rw [hwr, List.map_append, List.map_replicate, show Zm r1.st PtrD.zero = ByteArray.empty from Y1 rfl, ← List.map_take]
    congr 1
    refine List.map_congr_left fun q hq => Zag fun hh => ?_;have hq := List.mem_of_mem_take hq;rcases hm2 q hq with h | h
    ·rw [hh] at h; cases h
    ·exact hL.kp.row q h (hT.leaf h0 q hq).1 hh
   have hall : allL r1.st (depthN (many : Int)) r1.t.af = r1.t.all r1.st := by unfold Zd.all; rw [hL.t.2]
   have hinv := hL.inv;rw [hall] at hinv;have hf := Ug (l := (Zn (t.ps st)).drop many) (Y := r1.t.all r1.st ++ R) (hinv.mono fun i _ _ => by simp only [Zj]; omega) (fun q hq => (hT.leaf h0 q (List.mem_of_mem_drop hq)).1);obtain ⟨tv3, ta3, tp3, tx3⟩ := tvr.rows hf.2.rows (fun q hq => mem_append_left _ hq);exact ⟨tv3, by rw [ta3]; exact hf.1, (hL.kp.mono fun q hq => mem_append_right _ hq).trans (hf.2.mono fun q hq => mem_append_right _ hq), hL.t.2, tx3.trans htx⟩
def Y6 (o : Option Zc) : ByteArray := match o with | none => ByteArray.empty | some n => Yp n
noncomputable def ZC (st : Za) (ns : List (Option Zc)) : List PtrD := ns.flatMap fun o => match o with | none => [] | some n => n.au.all st
structure FS (st : Za) (t : Zd) (ns : List (Option Zc)) (R : List PtrD) : Prop where
  inv : Inv st (t.all st ++ (ZC st ns ++ R))
  tv : TV st t
  tx : t.tx st = ns.map Y6
  ok : ∀ n, some n ∈ ns → n.ok = true
  nv : ∀ n, some n ∈ ns → TV st n.au
theorem FS.len {st : Za} {t : Zd} {ns : List (Option Zc)} {R : List PtrD} (h : FS st t ns R) : ns.length = 16 := by
 have := congrArg length h.tx;rw [ZiG h.tv, length_map] at this;exact this.symm
theorem QJ {st s : Za} : ∀ {ns : List (Option Zc)} {X : List PtrD}, (∀ n, some n ∈ ns → TV st n.au) → Rows st s X → (∀ q ∈ ZC st ns, q ∈ X) → ZC s ns = ZC st ns ∧ ∀ n, some n ∈ ns → TV s n.au
 | [], X, _, _, _ => ⟨rfl, fun n hn => nomatch hn⟩
 | o :: r, X, hv, hr, hs => by
  obtain ⟨i1, i2⟩ := QJ (ns := r) (fun n hn => hv n (mem_cons_of_mem _ hn)) hr (fun q hq => hs q (by unfold ZC; rw [flatMap_cons]; exact mem_append_right _ hq))
  cases o with
  | none =>
   refine ⟨by unfold ZC; rw [flatMap_cons, flatMap_cons]; unfold ZC at i1; rw [i1], fun n hn => ?_⟩;rcases mem_cons.1 hn with h | h
   ·cases h
   ·exact i2 n h
  | some n =>
   obtain ⟨j1, j2, _⟩ := (hv n (mem_cons_self ..)).rows hr (fun q hq => hs q (by unfold ZC; rw [flatMap_cons]; exact mem_append_left _ hq));refine ⟨by unfold ZC; rw [flatMap_cons, flatMap_cons]; unfold ZC at i1; rw [i1]; show n.au.all s ++ _ = n.au.all st ++ _; rw [j2], fun m hm => ?_⟩;rcases mem_cons.1 hm with h | h
   ·cases h; exact j1
   ·exact i2 m h
theorem FS.keep {st s : Za} {t : Zd} {ns : List (Option Zc)} {R R2 : List PtrD} (h : FS st t ns R) (hi : Inv s (t.all st ++ (ZC st ns ++ R2))) (hr : Rows st s (t.all st ++ ZC st ns)) : FS s t ns R2 := by
 obtain ⟨t1, t2, _, t4⟩ := h.tv.rows hr fun q hq => mem_append_left _ hq
 obtain ⟨n1, n2⟩ := QJ h.nv hr fun q hq => mem_append_right _ hq
 exact ⟨by rw [t2, n1]; exact hi, t1, t4.trans h.tx, h.ok, n2⟩
theorem FS.next {st : Za} {t : Zd} {ns : List (Option Zc)} {R : List PtrD} (h : FS st t ns R) (ht : st.ar < 900) : FS st.nextOf t ns R := by
 obtain ⟨h1, h2⟩ := h.inv.next ht;refine h.keep h1 (h2.mono fun q hq => ?_);rcases mem_append.1 hq with hq | hq
 ·exact mem_append_left _ hq
 ·exact mem_append_right _ (mem_append_left _ hq)
structure FH (st : Za) (t : Zd) (ns : List (Option Zc)) (id : Nat) (Y : List PtrD) : Prop where
  inv : Inv st (t.all st ++ (ZC st (ns.set id none) ++ Y))
  tv : TV st t
  tx : t.tx st = ns.map Y6
  ok : ∀ n, some n ∈ ns.set id none → n.ok = true
  nv : ∀ n, some n ∈ ns.set id none → TV st n.au
theorem Uh {st : Za} : ∀ {ns : List (Option Zc)} {id : Nat} {o : Option Zc} (i : Nat), id < ns.length → cnt (ZC st (ns.set id o)) i = cnt (ZC st (ns.set id none)) i + cnt (ZC st [o]) i
 | [], id, o, i, h => by simp at h
 | a :: r, 0, o, i, _ => by
  rw [List.set_cons_zero, List.set_cons_zero];unfold ZC;rw [flatMap_cons, flatMap_cons, flatMap_cons, flatMap_nil, append_nil, Zj, Zj, Jg]; omega
 | a :: r, id + 1, o, i, h => by
  rw [List.set_cons_succ, List.set_cons_succ];have := Uh (st := st) (ns := r) (id := id) (o := o) i (by simpa using h);unfold ZC at this ⊢;rw [flatMap_cons, flatMap_cons, Zj, Zj]; omega
theorem Q1 {st : Za} (n : Zc) : ZC st [some n] = n.au.all st := by unfold ZC; simp
theorem Vb {st : Za} : ZC st [none] = [] := rfl
theorem ZbX {ns : List (Option Zc)} {id : Nat} {o : Option Zc} (h : ns[id]? = some o) : ns.set id o = ns := by
 obtain ⟨hl, e⟩ := List.getElem?_eq_some_iff.1 h;rw [← e, List.set_getElem_self]
theorem FS.hole {st : Za} {t : Zd} {ns : List (Option Zc)} {R : List PtrD} (h : FS st t ns R) {id : Nat} {o : Option Zc} (ho : ns[id]? = some o) : FH st t ns id (ZC st [o] ++ R) := by
 obtain ⟨hl, _⟩ := List.getElem?_eq_some_iff.1 ho;have hm : ∀ n, some n ∈ ns.set id none → some n ∈ ns := fun n hn => by
  rcases List.mem_or_eq_of_mem_set hn with h | h
  ·exact h
  ·cases h
 refine ⟨h.inv.mono fun i _ _ => ?_, h.tv, h.tx, fun n hn => h.ok n (hm n hn), fun n hn => h.nv n (hm n hn)⟩;have := Uh (st := st) (o := o) i hl;rw [ZbX ho] at this;simp only [Zj]; omega
theorem FH.keep {st s : Za} {t : Zd} {ns : List (Option Zc)} {id : Nat} {Y Y2 : List PtrD} (h : FH st t ns id Y) (hi : Inv s (t.all st ++ (ZC st (ns.set id none) ++ Y2))) (hr : Rows st s (t.all st ++ ZC st (ns.set id none))) : FH s t ns id Y2 := by
 obtain ⟨t1, t2, _, t4⟩ := h.tv.rows hr fun q hq => mem_append_left _ hq
 obtain ⟨n1, n2⟩ := QJ h.nv hr fun q hq => mem_append_right _ hq
 exact ⟨by rw [t2, n1]; exact hi, t1, t4.trans h.tx, h.ok, n2⟩
theorem FH.worked {st : Za} {t y : Zd} {ns : List (Option Zc)} {id : Nat} {R : List PtrD} (h : FH st t ns id (y.all st ++ R)) : Inv st (y.all st ++ (t.all st ++ (ZC st (ns.set id none) ++ R))) := h.inv.mono fun i _ _ => by simp only [Zj]; omega
structure FB (st : Za) (t : Zd) : Prop where
  ok : st.ok = true
  tv : TV st t
theorem tv0 {st : Za} (h : st.ok = true) : TV st tree0 :=
  ⟨⟨Int.le_refl _, by decide⟩, rfl, Wf.zero (by have := (Za.ok_spec h).txg; omega) _, fun j _ => by
    show ((lvL st 0 PtrD.zero).getD j PtrD.zero).hole = true;rw [show lvL st 0 PtrD.zero = [PtrD.zero] from rfl]
    cases j <;> rfl⟩
theorem ZmF {st : Za} {t : Zd} {R : List PtrD} {r : JU} (h : TV st t) (hp : ZmE st t R r) : FB r.st r.t := by
 refine ⟨hp.inv.ok, ?_⟩;rcases hp.t with e | e
 ·rw [e]; exact (h.rows hp.kp.rows fun q hq => mem_append_left _ hq).1
 ·rw [e]; exact tv0 hp.inv.ok
theorem FH.put {st : Za} {t : Zd} {ns : List (Option Zc)} {id : Nat} {R : List PtrD} {n : Zc} (h : FH st t ns id (n.au.all st ++ R)) (hv : TV st n.au) (hid : id < 16) (hl : ns.length = 16) (hsz : (Yp n).size ≤ 128) (he : n.ok = false → Yp n = ByteArray.empty) :
  ((Y9 st t (t.ps st) id (Yp n)).ok = true → FS (Y9 st t (t.ps st) id (Yp n)).st (Y9 st t (t.ps st) id (Yp n)).t (ns.set id (if n.ok = true then some n else none)) R ∧ (Y9 st t (t.ps st) id (Yp n)).t.ah = max t.ah ((id : Int) + 1)) ∧
  ((Y9 st t (t.ps st) id (Yp n)).ok = false → FB (Y9 st t (t.ps st) id (Yp n)).st (Y9 st t (t.ps st) id (Yp n)).t) := by
 obtain ⟨p1, p2⟩ := VV (k := id) h.inv h.tv hid hsz;refine ⟨fun hk => ?_, fun hk => ZmF h.tv (p2 hk)⟩;have hp := p1 hk;generalize Y9 st t (t.ps st) id (Yp n) = r at hp;have hr := hp.kp.rows;obtain ⟨n1, n2⟩ := QJ h.nv hr fun q hq => mem_append_left _ hq
 obtain ⟨y1, y2, _⟩ := hv.rows hr fun q hq => mem_append_right _ (mem_append_left _ hq)
 have hmem : ∀ m o, some m ∈ ns.set id o → some m ∈ ns.set id none ∨ o = some m := fun m o hm => by
  obtain ⟨j, hj, e⟩ := List.getElem_of_mem hm;rw [length_set] at hj;rw [List.getElem_set] at e
  split at e
  ·exact .inr e
  ·left
   refine List.mem_iff_getElem.2 ⟨j, by rw [length_set]; exact hj, ?_⟩;rw [List.getElem_set, if_neg (by assumption)]; exact e
 refine ⟨⟨hp.inv.mono fun i _ _ => ?_, hp.tv, ?_, fun m hm => ?_, fun m hm => ?_⟩, hp.many⟩
 ·have h1 := Uh (st := r.st) (ns := ns) (id := id) (o := if n.ok = true then some n else none) i (by omega)
  have h2 : cnt (ZC r.st [if n.ok = true then some n else none]) i ≤ cnt (n.au.all st) i := by
   split
   ·rw [Q1, y2]; exact Nat.le_refl _
   ·rw [Vb, Jg]; omega
  rw [n1] at h1;simp only [Zj]; omega
 ·rw [hp.tx, h.tx, List.map_set]
  congr 1
  split
  ·rfl
  ·rename_i e; exact he (by simpa using e)
 ·rcases hmem m _ hm with h1 | h1
  ·exact h.ok m h1
  ·split at h1
   ·rename_i e; cases h1; exact e
   ·cases h1
 ·rcases hmem m _ hm with h1 | h1
  ·exact n2 m h1
  ·split at h1
   ·cases h1; exact y1
   ·cases h1
end Go.Proofs.YthnbgnjpbmnelaaGreatDoor
