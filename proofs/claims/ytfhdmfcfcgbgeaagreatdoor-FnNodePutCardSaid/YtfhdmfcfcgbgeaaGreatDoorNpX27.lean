/- A part of the proof in YtfhdmfcfcgbgeaaGreatDoorNpX34. -/
import Derived.Shelf.Small.Strs
import Derived.Test.YtfhdmfcfcgbgeaaGreatDoorNpX26
namespace Go.Proofs.YtfhdmfcfcgbgeaaGreatDoor
set_option maxHeartbeats 4000000
open Go.Proofs.Tryz
open List (append_nil filter_append flatMap_cons flatMap_nil getD_eq_getElem?_getD length length_append length_cons length_map length_nil length_set length_singleton length_take map_cons mem_append mem_append_left mem_append_right mem_cons mem_cons_of_mem mem_cons_self mem_replicate mem_singleton nil_append replicate)
open Option (getD_some)
set_option linter.unusedVariables false
set_option linter.unusedSimpArgs false
set_option maxHeartbeats 1000000
set_option maxRecDepth 100000
open Go.RowKit
def ZfC (o : Option Nat) : Int := match o with | none => -1 | some k => (k : Int)
theorem Qu (k : Nat) : ZfC (some k) = (k : Int) := rfl
theorem Zgq {l : List ByteArray} {i : Nat} (h : i < l.length) : l.drop i = l.getD i ByteArray.empty :: l.drop (i + 1) := by
 rw [List.drop_eq_getElem_cons h, getD_eq_getElem?_getD, List.getElem?_eq_getElem h]; rfl
def Zr (s : ByteArray) : List ByteArray := bif (s.toList == (⟨#[47]⟩ : ByteArray).toList) then [] else Zd (s.extract 1 s.size) 47
theorem Zau {s : ByteArray} (h : (s.toList == (⟨#[47]⟩ : ByteArray).toList) = true) : Zr s = [] := by unfold Zr; rw [h]; rfl
theorem Ur {s : ByteArray} (h : (s.toList == (⟨#[47]⟩ : ByteArray).toList) = false) : Zr s = Zd (s.extract 1 s.size) 47 := by unfold Zr; rw [h]; rfl
theorem ZnB {t : ByteArray} (h : ZdH t = true) : (Zd t 47).length ≤ 4 := by
 unfold ZdH at h;rw [Bool.and_eq_true] at h;exact of_decide_eq_true h.1
theorem J7 {s : ByteArray} (h : ZK s = true) : (Zr s).length ≤ 4 := by
 cases h1 : (s.toList == (⟨#[47]⟩ : ByteArray).toList) with
 | true => rw [Zau h1]; exact Nat.zero_le _
 | false =>
  cases h2 : (s.data.toList.head? == some 47) with
  | false => rw [JO h1 h2] at h; cases h
  | true =>
   rw [JP h1 h2] at h;rw [Ur h1]; exact ZnB h
theorem ZcA (aoE : Option Addr) (cpE : Nat) (es : List Zc) (s : ByteArray) (w0 : World) (ho : YM es = true) (hE : Rd Zc.cells 2 w0 aoE es.length es) : Calls prog 124 #[.slice aoE es.length cpE, .string s] w0 fun e w' => e = .returned (.int .i64 (ZfC (QB es s))) ∧ Below w0.heap.size w0 w' := by
 obtain ⟨gE, oE, rE⟩ := hE.opn; have RE := Bx.mk rE; clear rE;have h12 := (US ho).2;have E := Bx.mk (St.start w0);refine ent func124 ntmps124 ?_;refine xsr<|xr 1 rfl<|xne<|xsq<|xsr<|xr 1 rfl<|xne<|xbl ?_;intro a J;refine Zt (ι := Nat) (fun i a w => (i ≤ es.length ∧ ∀ j, j < i → (es.getD j Zc.zero).aD ≠ s) ∧ Fr 20 a [(0, .slice aoE es.length cpE), (1, .string s), (4, .int .i64 0), (5, .int .i64 (i : Int))] ∧ St w0 ([]) w) (fun i => es.length - i) 0 ⟨⟨Nat.zero_le _, fun j hj => absurd hj (Nat.not_lt_zero _)⟩, J.ls _, E.o⟩ ?_;clear J E; clear a;rintro i a w1 ⟨⟨hi, hal⟩, J, E⟩;replace E := Bx.mk E;revert a;refine xsq<|xsr<|xr 2 rfl<|xy rfl (vn 153 2 rfl)<|xr 1 rfl<|xne<|xcd 9 rfl (fun _ dcc1=>?_) fun _ dcc1=>?_
 refine xct rfl<|xsk<|xet<|xsq<|xbl<|xsr<|xr 2 rfl<|xy rfl (vxr 153 i 2 rfl (RE.out.ao i (by omega)))<|Xf 0 rfl<|xy rfl (fun a J=>ylo (v := .string ((es.getD i Zc.zero).aD)) rfl (J.ev rfl) (RE.out.elem E.o (Zi (xs := es) (j := i) (d := Zc.zero) (by omega)) 0 _ rfl))<|xr 1 rfl<|xy rfl (fun a J=>Y7 rfl (J.ev rfl) (J.ev rfl))<|xne<|xcs 18 rfl (fun cc2=>?_) fun cc2=>?_;refine xct rfl<|xsr<|xr 2 rfl<|xne<|xre<|xbr<|xtr<|xtr<|xbr<|xtr<|xb1 results124 rfl ?_;have hx : QB es s = some i := Zd8 ho (o := some i) ⟨by omega, ZM cc2⟩; exact ⟨by rw [hx] <;> rfl, E.o.bel⟩;have hne9 : (es.getD i Zc.zero).aD ≠ s := fun e => by rw [e] at cc2; simp at cc2
 have hal2 : ∀ j, j < i + 1 → (es.getD j Zc.zero).aD ≠ s := fun j hj => (Nat.lt_or_ge j i).elim (fun h => hal j h) (fun h => by obtain rfl : j = i := (by omega); exact hne9)
 refine xcf rfl<|xsk<|xeb<|xet<|xrl<|xr 1 rfl<|xy rfl (vad rfl)<|xr 1 rfl<|xne ?_;intro a J;exact ⟨(i + 1), ⟨⟨by omega, hal2⟩, J.less _ ⟨rfl, rfl, rfl, rfl, trivial⟩, E.o⟩, (by omega)⟩;refine xcf rfl<|xex<|xtx<|xtx<|xbh<|xet<|xsr<|xr 1 rfl<|xne<|xre<|xb1 results124 rfl ?_;have hx : QB es s = none := Zd8 ho (o := none) fun j hj => hal j (by omega); exact ⟨by rw [hx] <;> rfl, E.o.bel⟩
theorem Zgr (s : ByteArray) (w0 : World) (h : (s.toList == (⟨#[47]⟩ : ByteArray).toList) = true) : Calls prog 129 #[.string s] w0 fun e w' => ∃ ao cp, e = .returned (.slice ao (Zr s).length cp) ∧ Rd Zu 1 w' ao (Zr s).length (Zr s) ∧ Below w0.heap.size w0 w' := by
 have E := Bx.mk (St.start w0);refine ent func129 ntmps129 ?_;refine xsr<|xr 1 rfl<|xne<|xsq<|xsr<|xr 1 rfl<|xy rfl (fun a J=>Y7 rfl (J.ev rfl) (J.ev rfl))<|xne<|xcs 4 rfl (fun cc1=>?_) fun cc1=>?_;refine xct rfl<|xsr ?_;refine yem 9 1 E ?_;clear E;intro w1 b1 E;refine xr 1 rfl<|xne<|xre<|xtr<|xb1 results129 rfl ?_;rw [Zau h]; exact ⟨_, _, rfl, Zah _ _ _ _, E.o.bel⟩;rw [h] at cc1; cases cc1
theorem ZeO (s : ByteArray) (w0 : World) (hp : ZK s = true) (hs : s.size ≤ 4000000000) : Calls prog 129 #[.string s] w0 fun e w' => ∃ ao cp, e = .returned (.slice ao (Zr s).length cp) ∧ Rd Zu 1 w' ao (Zr s).length (Zr s) ∧ Below w0.heap.size w0 w' := by
 cases h : (s.toList == (⟨#[47]⟩ : ByteArray).toList) with
 | true => exact Zgr s w0 h
 | false =>
  cases h2 : (s.data.toList.head? == some 47) with
  | false => rw [JO h h2] at hp; cases hp
  | true =>
   refine (ZbJ s w0 h h2 (by omega)).mono fun e w' hx => ?_;obtain ⟨ao, cp, e1, e2, e3⟩ := hx;rw [Ur h];have hl := e2.len;rw [← hl] at e1 e2;exact ⟨ao, cp, e1, e2, e3⟩
theorem Zb3 (s : ByteArray) (w0 : World) (hs : s.size ≤ 4000000000) : Calls prog 160 #[.string s] w0 fun e w' => (ZK s = true ∧ ∃ ao cp, e = .returned (.tuple #[.slice ao (Zr s).length cp, .bool true]) ∧ St w0 [Zg Zu 1 9 (.slice ao (Zr s).length cp) (Zr s)] w') ∨ (ZK s = false ∧ ∃ v, e = .returned (.tuple #[v, .bool false]) ∧ Below w0.heap.size w0 w') := by
 have E := Bx.mk (St.start w0);refine ent func160 ntmps160 ?_;refine xsr<|xr 2 rfl<|xne<|xsq<|xsr<|xr 1 rfl ?_;refine ycB (JV s _ hs) func93 E ?_;clear E;intro w1 E;refine xr 1 rfl<|xne<|xcs 6 rfl (fun cc1=>?_) fun cc1=>?_;have hpb : ZK s = false := by simpa using cc1
 refine xct rfl<|xsr ?_;refine yem 9 1 E ?_;clear E;intro w2 b1 E;refine xr 2 rfl<|xne<|xre<|xtr<|xb2 results160 rfl rfl ?_;exact .inr ⟨hpb, _, rfl, E.o.bel⟩;have hpb : ZK s = true := by simpa using cc1
 have hn4 := J7 hpb;refine xcf rfl<|xsk<|xet<|xsr ?_;refine yem 9 1 E ?_;clear E;intro w3 b2 E;refine xr 1 rfl ?_;refine yc (ZeO s _ hpb hs) func129 ?_;rintro _ w4 ⟨aoL, cpL, rfl, hrd, hb⟩;refine ⟨_, rfl, ?_⟩; replace E := Bx.mk (E.o.later hb);clear hb;replace E := Bx.mk (E.o.nilRow Zu 1 9 (some ⟨b2, 0, none⟩));intro a J;refine XE rfl J rfl rfl rfl (J.ev rfl) (J.ev rfl) Y1 Zf E.o 0 (xs := []) rfl (ys := (Zr s)) hrd (Zv _) (by unfold maxLen; (try simp only [length_append, length_cons, length_nil, nil_append, length_map]); omega) (by (try simp only [length_append, length_cons, length_nil, nil_append, length_map]); omega) ?_; clear J E a; intro ao4 cp5 w5 a J E; replace E := Bx.mk E;revert a;refine xr 2 rfl<|xne<|xre<|xb2 results160 rfl rfl ?_;replace E:=E.pks [0];have h0 : ([] : List ByteArray).length + (Zr s).length = (Zr s).length := Nat.zero_add _; rw [h0] at E;exact .inl ⟨hpb, _, _, by rw [h0], E.o⟩
theorem ZfD (a0 : Option Addr) (c0 : Nat) (a1 : Option Addr) (c1 : Nat) (a2 : Option Addr) (c2 : Nat) (a4 : Option Addr) (c4 : Nat) (a6 : Option Addr) (c6 : Nat) (st : Za) (t : Ze) {x : List PtrD} (hx : downL (kidsS st) (depthN t.ai) [t.af] = some x) (hdep : t.aw = ((depthN t.ai : Nat) : Int)) (hxl : x.length ≤ 16) (hxok : ∀ p ∈ x, p.ok = true) (k : Nat) (hk : k < 16) (w0 : World) (hR : Rd Zu 1 w0 a0 st.ac.length st.ac) (hrow : Xv st) : Calls prog 188 #[sV a0 c0 a1 c1 a2 c2 a4 c4 a6 c6 st, tV t, .int .i64 (k : Int)] w0 fun e w' => e = .returned (.string (Zn st ((Zo x).getD k PtrD.zero))) ∧ Below w0.heap.size w0 w' := by
 have HR := Bx.mk hR; clear hR;have E := Bx.mk (St.start w0);refine ent func188 ntmps188 ?_;refine xsr ?_;refine ybx E ?_;clear E;intro w1 b1 E;refine ybx E ?_;clear E;intro w2 b2 E;refine xr 1 rfl<|xne<|xsr<|Xw 1 8 E rfl rfl<|Xw 0 7 E rfl rfl ?_;refine yc (Vi a0 c0 a1 c1 a2 c2 a4 c4 a6 c6 st t hx hdep hxl _ (HR.out.below E.o.bel) hrow) func95 ?_;rintro _ w3 ⟨ao3, cp3, rfl, hs⟩;refine ⟨_, rfl, ?_⟩;replace E := E.ad hs;clear hs;refine xr 1 rfl<|xne<|xsq ?_;have hwl := UP hxl; have hwok := ZbS hxok;obtain ⟨g4, rfl, _, _, _, _⟩ := E.o.rowOpen 0 rfl (by omega);intro a J;refine Yn (by kernel_rfl) (by kernel_rfl) E.o ?_;revert a;refine Qw 2 8 rfl rfl<|xqr 2 rfl<|xq rfl (fun E=>vx 24 k 5 rfl)<|xq rfl (fun E a J=>ylr (cs := pL ((Zo x).getD k PtrD.zero)) rfl (J.ev rfl) (E.elem PtrD.cells_len 0 rfl (Zi (xs := Zo x) (j := k) (d := PtrD.zero) (by omega)))) ?_;refine yq (fun _ E => (J2 a0 c0 a1 c1 a2 c2 a4 c4 a6 c6 st ((Zo x).getD k PtrD.zero) _ (HR.out.below E.bel) hrow (hwok _ (YK (by omega))))) func96 ?_;refine xqr 5 rfl ?_;intro a J;refine wpQuiet_nil ?_; intro w4 E; replace E := Bx.mk E;revert a;refine xet<|xsr<|xr 2 rfl<|xne<|xre<|xb1 results188 rfl ?_;exact ⟨rfl, E.o.bel⟩
def PtrD.eqv (x y : PtrD) : Bool := x.aC == y.aC && (x.al == y.al && (x.am == y.am && (x.aB == y.aB && x.aq == y.aq)))
theorem Zjy (x y : PtrD) (d : Nat) (w : World) : (Op.equalIn (d + 2) 24 (.agg #[.int .i64 x.aC, .int .i64 x.al, .int .i64 x.am, .int .i64 x.aB, .int .i64 x.aq]) (.agg #[.int .i64 y.aC, .int .i64 y.al, .int .i64 y.am, .int .i64 y.aB, .int .i64 y.aq])).run prog w = .ok (x.eqv y) w := by
 have hS : Tryz.prog.underlying 24 = some (.struct (Tryz.prog.fieldsOf 24)) := by kernel_rfl
 have hp : Tryz.prog.stoodInHeld 24 = false := by kernel_rfl
 rw [run_equalIn_agg w (d + 1) 24 _ _ hS hp];simp only [Program.fieldsOf, Tryz.underlying24];unfold PtrD.eqv
 go_simp
 by_cases h1 : x.aC = y.aC <;> by_cases h2 : x.al = y.al <;> by_cases h3 : x.am = y.am <;> by_cases h4 : x.aB = y.aB <;> by_cases h5 : x.aq = y.aq <;> simp [h1, h2, h3, h4, h5]
theorem ZcB {w : World} {o : Oper} {a : Act} {x y : Operand} {t' : TypeId} (p q : PtrD) (ho : o.op = .binOp .neq 24 x y t') (hx : a.eval x = .agg #[.int .i64 p.aC, .int .i64 p.al, .int .i64 p.am, .int .i64 p.aB, .int .i64 p.aq]) (hy : a.eval y = .agg #[.int .i64 q.aC, .int .i64 q.al, .int .i64 q.am, .int .i64 q.aB, .int .i64 q.aq]) : Yl prog w o a (.bool (!(p.eqv q))) := by
 have he := Zjy p q 9998 w;unfold Yl execOp;simp only [ho, hx, hy];simp [eqGuard, binOp, go_sem, Op.equal];rw [show Op.maxDepth = 9998 + 2 from rfl, he]; rfl
theorem Zgs {a b : List PtrD} (h : a.Sublist b) (i : Nat) : cnt a i ≤ cnt b i := (h.filter _).length_le
def Xj (a b : List PtrD) : Prop := ∀ (f : PtrD → Bool) (i : Nat), 8 ≤ i → cnt (a.filter f) i ≤ cnt (b.filter f) i
theorem Xj.nil (b : List PtrD) : Xj [] b := fun f i _ => Nat.zero_le _
theorem Xj.refl (b : List PtrD) : Xj b b := fun f i _ => Nat.le_refl _
theorem Xj.app {a b c d : List PtrD} (h : Xj a b) (k : Xj c d) : Xj (a ++ c) (b ++ d) := fun f i hi => by
 rw [filter_append, filter_append, Zj, Zj];have := h f i hi; have := k f i hi; omega
theorem Xj.trans {a b c : List PtrD} (h : Xj a b) (k : Xj b c) : Xj a c := fun f i hi => Nat.le_trans (h f i hi) (k f i hi)
theorem Xj.swap (a b : List PtrD) : Xj (a ++ b) (b ++ a) := fun f i _ => by
 rw [filter_append, filter_append, Zj, Zj]; omega
theorem UX {a : List PtrD} (h : ∀ q ∈ a, q.hole = true) {i : Nat} (hi : 8 ≤ i) : cnt a i = 0 := by
 unfold cnt;rw [List.length_eq_zero_iff, List.filter_eq_nil_iff];intro q hq;rw [YP (h q hq)];show ¬ ((0 : Int) == (i : Int)) = true;rw [beq_iff_eq]; omega
theorem Xj.holes {a b : List PtrD} (h : ∀ q ∈ a, q.hole = true) : Xj a b := fun f i hi => by
 rw [UX (fun q hq => h q (List.mem_filter.1 hq).1) hi]; exact Nat.zero_le _
theorem Xj.some (a : List PtrD) : Xj a (a.filter fun q => !q.hole) := fun f i hi => by
 induction a with
 | nil => exact Nat.le_refl _
 | cons q r ih =>
  have e : q :: r = [q] ++ r := rfl;rw [e, filter_append, filter_append, filter_append, Zj, Zj]
  cases hh : q.hole with
  | true =>
   have := UX (a := [q].filter f) (fun x hx => by have := (List.mem_filter.1 hx).1; rw [mem_singleton] at this; rw [this]; exact hh) hi
   omega
  | false =>
   rw [show [q].filter (fun q => !q.hole) = [q] by rw [List.filter_cons, hh]; rfl]
   omega
theorem PtrD.eqv_iff {x y : PtrD} : x.eqv y = true ↔ x = y := by
 unfold PtrD.eqv;simp only [Bool.and_eq_true, beq_iff_eq]
 constructor
 ·rintro ⟨a, b, c, d, e⟩; cases x; cases y; dsimp only at a b c d e; subst a; subst b; subst c; subst d; subst e; rfl
 ·rintro rfl; exact ⟨rfl, rfl, rfl, rfl, rfl⟩
structure LayI (st0 : Za) (inn R A : List PtrD) (L : List PtrD) (n : Nat) (W next back stays : List PtrD) (st : Za) (N : List PtrD) : Prop where
  inv : Inv st (N ++ (inn ++ R))
  kp : Z4 st0 st (inn ++ R)
  wfn : ∀ p ∈ next, Wf st (n + 1) p
  wfb : ∀ p ∈ back, Wf st n p
  lvs : next.flatMap (lvL st (n + 1)) ++ back.flatMap (lvL st n) = L
  acc : ∀ i, 8 ≤ i → i < 64 → cnt (next.flatMap (allL st (n + 1)) ++ back.flatMap (allL st n)) i ≤ cnt N i + cnt stays i + cnt A i
  mem : ∀ q ∈ next.flatMap (allL st (n + 1)) ++ back.flatMap (allL st n), q ∈ N ∨ (q ∈ stays ∧ q ∈ inn) ∨ q ∈ R
  sty : Xj stays W
section
variable {st0 : Za} {inn R A L : List PtrD} {n : Nat} {W next back stays : List PtrD} {st : Za} {N : List PtrD}
theorem LayI.start {cs : List PtrD} (h : Inv st0 (inn ++ R)) (hw : ∀ p ∈ cs, Wf st0 0 p) (hc : ∀ i, 8 ≤ i → i < 64 → cnt cs i ≤ cnt A i) (hm : ∀ q ∈ cs, q.hole = true ∨ q ∈ R) : LayI st0 inn R A cs 0 [] [] cs [] st0 [] := by
 have e1 : ∀ l : List PtrD, l.flatMap (lvL st0 0) = l := fun l => by
  induction l with
  | nil => rfl
  | cons q r ih => rw [flatMap_cons, ih]; rfl
 have e2 : ∀ l : List PtrD, l.flatMap (allL st0 0) = l.filter fun q => !q.hole := fun l => by
  induction l with
  | nil => rfl
  | cons q r ih =>
   rw [flatMap_cons, ih, List.filter_cons]
   cases hh : q.hole with
   | true => rw [ZV hh]; rfl
   | false => rw [Qz hh]; rfl
 refine ⟨h, Z4.refl _ _, fun p hp => (nomatch hp), hw, e1 cs, fun i h8 hi => ?_, fun q hq => ?_, Xj.nil _⟩
 ·show cnt (cs.flatMap (allL st0 0)) i ≤ _
  rw [e2];have := Zgs (List.filter_sublist (p := fun q : PtrD => !q.hole) (l := cs)) i;have := hc i h8 hi
  omega
 ·have hq : q ∈ cs.flatMap (allL st0 0) := hq
  rw [e2, List.mem_filter] at hq;rcases hm q hq.1 with h | h
  ·rw [h] at hq; cases hq.2
  ·exact .inr (.inr h)
theorem LayI.pad (h : LayI st0 inn R A L n W [] back stays st N) (k : Nat) : LayI st0 inn R A (L ++ replicate (k * 4 ^ n) PtrD.zero) n W [] (back ++ replicate k PtrD.zero) stays st N := by
 have hO := Za.ok_spec h.inv.ok;have ea : (replicate k PtrD.zero).flatMap (allL st n) = [] := by
  rw [List.flatMap_eq_nil_iff]; intro q hq; rw [(mem_replicate.1 hq).2]; exact ZV X7 n
 have el : (replicate k PtrD.zero).flatMap (lvL st n) = replicate (k * 4 ^ n) PtrD.zero := by
  induction k with
  | zero => simp
  | succ k ih =>
   rw [List.replicate_succ, flatMap_cons, ih (by rw [List.flatMap_eq_nil_iff]; intro q hq; rw [(mem_replicate.1 hq).2]; exact ZV X7 n), ZbV X7, List.replicate_append_replicate]
   congr 1; rw [Nat.add_mul]; omega
 refine ⟨h.inv, h.kp, fun p hp => (nomatch hp), fun p hp => ?_, ?_, fun i h8 hi => ?_, fun q hq => ?_, h.sty⟩
 ·rcases mem_append.1 hp with hp | hp
  ·exact h.wfb p hp
  ·rw [(mem_replicate.1 hp).2]; exact Wf.zero (by have := hO.txg; omega) n
 ·rw [List.flatMap_append, el, ← List.append_assoc, h.lvs]
 ·have := h.acc i h8 hi
  rw [List.flatMap_append, ea, append_nil]; exact this
 ·rw [List.flatMap_append, ea, append_nil] at hq; exact h.mem q hq
theorem LayI.turn (h : LayI st0 inn R A L n W next [] stays st N) : LayI st0 inn R A L (n + 1) W [] next stays st N :=
 ⟨h.inv, h.kp, fun p hp => (nomatch hp), h.wfn, by have := h.lvs; rw [flatMap_nil, append_nil] at this; exact this,
  fun i h8 hi => by have := h.acc i h8 hi; rw [flatMap_nil, append_nil] at this; exact this,
  fun q hq => h.mem q (by rw [flatMap_nil, append_nil]; exact hq), h.sty⟩
theorem LayI.step {c back' : List PtrD} (h : LayI st0 inn R A L n W next (c ++ back') stays st N) {st' : Za} {N' stays' : List PtrD} {p w : PtrD}
  (hinv : Inv st' (N' ++ (inn ++ R))) (hkp : Z4 st st' (N ++ (inn ++ R))) (hpo : p.ok = true) (hpb : p.al ≤ st'.av) (hk : kids st' p ((n + 1 : Nat) : Int) = some c)
  (hcnt : ∀ i, 8 ≤ i → i < 64 → cnt [p] i + cnt N i + cnt stays i ≤ cnt N' i + cnt stays' i) (hp : p.hole = true ∨ p ∈ N' ∨ (p ∈ stays' ∧ p ∈ inn)) (hN : ∀ q ∈ N, q ∈ N') (hs : ∀ q ∈ stays, q ∈ stays') (hst : Xj stays' (W ++ [w])) :
  LayI st0 inn R A L n (W ++ [w]) (next ++ [p]) back' stays' st' N' := by
 have hr := hkp.rows;have hcl : ∀ {l : List PtrD} {m : Nat}, (∀ q ∈ l.flatMap (allL st m), q ∈ N ∨ (q ∈ stays ∧ q ∈ inn) ∨ q ∈ R) → ∀ x ∈ l, ∀ q ∈ allL st m x, q ∈ N ++ (inn ++ R) := fun hm x hx q hq => by
  rcases hm q (List.mem_flatMap.2 ⟨x, hx, hq⟩) with a | a | a
  ·exact mem_append_left _ a
  ·exact mem_append_right _ (mem_append_left _ a.2)
  ·exact mem_append_right _ (mem_append_right _ a)
 have hmn : ∀ q ∈ next.flatMap (allL st (n + 1)), q ∈ N ∨ (q ∈ stays ∧ q ∈ inn) ∨ q ∈ R := fun q hq => h.mem q (mem_append_left _ hq)
 have hmb : ∀ q ∈ (c ++ back').flatMap (allL st n), q ∈ N ∨ (q ∈ stays ∧ q ∈ inn) ∨ q ∈ R := fun q hq => h.mem q (mem_append_right _ hq)
 have tn : ∀ x ∈ next, Wf st' (n + 1) x ∧ allL st' (n + 1) x = allL st (n + 1) x ∧ lvL st' (n + 1) x = lvL st (n + 1) x := fun x hx => (h.wfn x hx).rows hr (hcl hmn x hx)
 have tb : ∀ x ∈ c ++ back', Wf st' n x ∧ allL st' n x = allL st n x ∧ lvL st' n x = lvL st n x := fun x hx => (h.wfb x hx).rows hr (hcl hmb x hx)
 have tc : ∀ x ∈ c, Wf st' n x ∧ allL st' n x = allL st n x ∧ lvL st' n x = lvL st n x := fun x hx => tb x (mem_append_left _ hx)
 have t2 : ∀ x ∈ back', Wf st' n x ∧ allL st' n x = allL st n x ∧ lvL st' n x = lvL st n x := fun x hx => tb x (mem_append_right _ hx)
 have en : next.flatMap (allL st' (n + 1)) = next.flatMap (allL st (n + 1)) := YB fun x hx => (tn x hx).2.1
 have e2 : back'.flatMap (allL st' n) = back'.flatMap (allL st n) := YB fun x hx => (t2 x hx).2.1
 have ec : c.flatMap (allL st' n) = c.flatMap (allL st n) := YB fun x hx => (tc x hx).2.1
 have hpa : ∀ q ∈ allL st' (n + 1) p, (p.hole = false ∧ q = p) ∨ q ∈ c.flatMap (allL st n) := fun q hq => by
  cases hh : p.hole with
  | true => rw [ZV hh] at hq; cases hq
  | false =>
   rw [YZ hh hk, ec] at hq;rcases mem_cons.1 hq with rfl | hq
   ·exact .inl ⟨rfl, rfl⟩
   ·exact .inr hq
 have hpc : ∀ i, 8 ≤ i → cnt (allL st' (n + 1) p) i ≤ cnt [p] i + cnt (c.flatMap (allL st n)) i := fun i _ => by
  cases hh : p.hole with
  | true => rw [ZV hh]; exact Nat.zero_le _
  | false => rw [YZ hh hk, ec, show p :: c.flatMap (allL st n) = [p] ++ c.flatMap (allL st n) from rfl, Zj]; exact Nat.le_refl _
 have hup : ∀ q, (q ∈ N ∨ (q ∈ stays ∧ q ∈ inn) ∨ q ∈ R) → q ∈ N' ∨ (q ∈ stays' ∧ q ∈ inn) ∨ q ∈ R := fun q hq => by
  rcases hq with a | a | a
  ·exact .inl (hN q a)
  ·exact .inr (.inl ⟨hs q a.1, a.2⟩)
  ·exact .inr (.inr a)
 refine ⟨hinv, h.kp.trans (hkp.mono fun q hq => mem_append_right _ hq), fun x hx => ?_, fun x hx => (t2 x hx).1, ?_, fun i h8 hi => ?_, fun q hq => ?_, hst⟩
 ·rcases mem_append.1 hx with hx | hx
  ·exact (tn x hx).1
  ·rw [mem_singleton.1 hx]; exact ⟨hpo, hpb, c, hk, fun y hy => (tc y hy).1⟩
 ·rw [List.flatMap_append, flatMap_cons, flatMap_nil, append_nil, QS hk, YB fun x hx => (tn x hx).2.2, YB fun x hx => (tc x hx).2.2, YB fun x hx => (t2 x hx).2.2, ← h.lvs, List.flatMap_append, List.append_assoc]
 ·have h1 := h.acc i h8 hi
  have h2 := hcnt i h8 hi;have h3 := hpc i h8;rw [List.flatMap_append, Zj, Zj] at h1;rw [List.flatMap_append, flatMap_cons, flatMap_nil, append_nil, en, e2, Zj, Zj]
  omega
 ·rw [List.flatMap_append, flatMap_cons, flatMap_nil, append_nil, en, e2] at hq
  rcases mem_append.1 hq with hq | hq
  ·rcases mem_append.1 hq with hq | hq
   ·exact hup q (hmn q hq)
   ·rcases hpa q hq with ⟨hh, rfl⟩ | hq
    ·rcases hp with a | a | a
     ·rw [hh] at a; cases a
     ·exact .inl a
     ·exact .inr (.inl a)
    ·exact hup q (hmb q (by rw [List.flatMap_append]; exact mem_append_left _ hq))
  ·exact hup q (hmb q (by rw [List.flatMap_append]; exact mem_append_right _ hq))
def QU (stays : List PtrD) (p w : PtrD) : List PtrD := if p.eqv w then stays ++ [p] else stays
theorem ZcC (h : Xj stays W) (p w : PtrD) : Xj (QU stays p w) (W ++ [w]) := by
 unfold QU
 split
 ·next e => rw [PtrD.eqv_iff.1 e]; exact h.app (Xj.refl _)
 ·have := h.app (Xj.nil [w]); rwa [append_nil] at this
theorem ZcD {p w q : PtrD} (h : q ∈ stays) : q ∈ QU stays p w := by
 unfold QU
 split
 ·exact mem_append_left _ h
 ·exact h
theorem ZfE (p w : PtrD) (i : Nat) : cnt stays i ≤ cnt (QU stays p w) i := by
 unfold QU
 split
 ·rw [Zj]; omega
 ·exact Nat.le_refl _
theorem LayI.hole {c back' : List PtrD} (h : LayI st0 inn R A L n W next (c ++ back') stays st N) (hc : c.length = 4) (hh : c.all (fun p => p.hole) = true) (w : PtrD) : LayI st0 inn R A L n (W ++ [w]) (next ++ [PtrD.zero]) back' (QU stays PtrD.zero w) st N := by
 have hO := Za.ok_spec h.inv.ok;have e : c = YI := by
  obtain ⟨a, b, x, y, rfl⟩ : ∃ a b x y, c = [a, b, x, y] := by
   match c, hc with
   | [a, b, x, y], _ => exact ⟨a, b, x, y, rfl⟩
  simp only [List.all_cons, List.all_nil, Bool.and_true, Bool.and_eq_true] at hh;rw [YP hh.1, YP hh.2.1, YP hh.2.2.1, YP hh.2.2.2]; rfl
 refine h.step h.inv (Z4.refl _ _) rfl (by show (0 : Int) ≤ _; have := hO.txg; omega) (by rw [e]; exact JD rfl) (fun i h8 hi => ?_) (.inl rfl) (fun q hq => hq) (fun q hq => ZcD hq) (ZcC h.sty _ _);have := UX (a := [PtrD.zero]) (fun q hq => by rw [mem_singleton.1 hq]; rfl) h8;have := ZfE (stays := stays) PtrD.zero w i
 omega
theorem LayI.reuse {c back' : List PtrD} (h : LayI st0 inn R A L n W next (c ++ back') stays st N) {w : PtrD} (hf : IsFan (Yt st w) c) (hh : w.hole = false) (hw : Wf st0 (n + 1) w) (hi : w ∈ inn) : LayI st0 inn R A L n (W ++ [w]) (next ++ [w]) back' (QU stays w w) st N := by
 have hrow : Yt st w = Yt st0 w := h.kp.row w (mem_append_left _ hi) hw.ok.1 hh;obtain ⟨ho, hb, l, hk, hl⟩ := hw;have hk2 : kids st w ((n + 1 : Nat) : Int) = some l := by rw [ZbU fun _ => hrow]; exact hk
 have e : l = c := by
  rcases (QR hk2).2.2 with ⟨a, _⟩ | ⟨_, _, hr, hfl, _⟩
  ·rw [hh] at a; cases a
  ·rw [QQ hh] at hr
   rw [JC hh hr] at hfl;exact hfl.one hf
 have hs : QU stays w w = stays ++ [w] := by unfold QU; rw [if_pos (PtrD.eqv_iff.2 rfl)]
 refine h.step h.inv (Z4.refl _ _) ho (by rw [h.kp.txg]; exact hb) (by rw [hk2, e]) (fun i h8 hi => ?_) (.inr (.inr ⟨?_, hi⟩)) (fun q hq => hq) (fun q hq => ZcD hq) (ZcC h.sty _ _)
 ·rw [hs, Zj]; omega
 ·rw [hs]; exact mem_append_right _ (mem_singleton.2 rfl)
theorem LayI.fresh {c back' : List PtrD} (h : LayI st0 inn R A L n W next (c ++ back') stays st N) (hf : IsFan (fanB c) c) (hsz : inB (fanB c).size 1 128 = true) (hn : n + 1 ≤ 2) {i : Nat} (hi : i < 64) (hw : writeAt st (fanB c) ((n + 1 : Nat) : Int) = i) (w : PtrD) :
  LayI st0 inn R A L n (W ++ [w]) (next ++ [YW (i : Int) st.av ((n + 1 : Nat) : Int) (fanB c)]) back' (QU stays (YW (i : Int) st.av ((n + 1 : Nat) : Int) (fanB c)) w) (st.putAt i (st.ac.set i (fanB c))) (YW (i : Int) st.av ((n + 1 : Nat) : Int) (fanB c) :: N) := by
 have hlv : inB ((n + 1 : Nat) : Int) 0 2 = true := XT (by omega) (by omega);obtain ⟨hI, hK, hR⟩ := h.inv.write hsz hlv hi hw;obtain ⟨_, _, _, hpk, _⟩ := Zmb h.inv.ok hsz hlv hi hw;have hO := Za.ok_spec h.inv.ok;have hpo : (YW (i : Int) st.av ((n + 1 : Nat) : Int) (fanB c)).ok = true := by unfold XI at hpk; rw [Bool.and_eq_true] at hpk; exact hpk.2
 have hph : (YW (i : Int) st.av ((n + 1 : Nat) : Int) (fanB c)).hole = false := by
  cases hh : (YW (i : Int) st.av ((n + 1 : Nat) : Int) (fanB c)).hole with
  | false => rfl
  | true =>
   have e : (YW (i : Int) st.av ((n + 1 : Nat) : Int) (fanB c)).aq = 0 := by rw [YP hh]; rfl
   have e2 : (YW (i : Int) st.av ((n + 1 : Nat) : Int) (fanB c)).aq = ((n + 1 : Nat) : Int) := rfl
   omega
 have hfit : Qi (YW (i : Int) st.av ((n + 1 : Nat) : Int) (fanB c)) (fanB c) = true := by
  unfold Qi; rw [hpo, hph];show (true && (true && (((fanB c).size : Int) == ((fanB c).size : Int) && (UF (fanB c) == UF (fanB c))))) = true
  simp
 refine h.step (by rw [List.cons_append]; exact hI) hK hpo (Int.le_refl _) (ZdO hph (by rw [QQ hph, hR]; exact hfit) (beq_self_eq_true _) (by rw [JC hph (by rw [hR]; exact hfit), hR]; exact hf) ?_) (fun j h8 hj => ?_) (.inr (.inl (mem_cons_self ..))) (fun q hq => mem_cons_of_mem _ hq) (fun q hq => ZcD hq) (ZcC h.sty _ _)
 ·rw [List.any_eq_false]
  intro k hk;have := (h.wfb k (mem_append_left _ hk)).ok.2;rw [decide_eq_true_eq];show ¬ st.av < k.al
  omega
 ·have := ZfE (stays := stays) (YW (i : Int) st.av ((n + 1 : Nat) : Int) (fanB c)) w j
  rw [show YW (i : Int) st.av ((n + 1 : Nat) : Int) (fanB c) :: N = [YW (i : Int) st.av ((n + 1 : Nat) : Int) (fanB c)] ++ N from rfl, Zj]
  omega
end
theorem Zb4 {p : PtrD} (h : p.ok = true) : (Z2 p).size ≤ 21 := by
 cases hh : p.hole with
 | true => rw [X6 h hh]; decide
 | false =>
  rw [UG h hh];unfold PtrD.ok at h;rw [hh, Bool.false_or] at h;simp only [Bool.and_eq_true] at h;obtain ⟨⟨⟨⟨h1, h2⟩, h3⟩, h4⟩, h5⟩ := h;have h1 := Zs h1; have h2 := Zs h2; have h3 := Zs h3; have h4 := Zs h4; have h5 := Zs h5;have e : ∀ {n : Int} {k : Nat}, 0 ≤ n → n < ((10 ^ (k + 1) : Nat) : Int) → k ≤ 8 → (ZI n).size ≤ k + 1 := fun {n k} h0 h1 h8 => by
   rw [YO h0 (by
    have : (10 : Nat) ^ (k + 1) ≤ 10 ^ 9 := Nat.pow_le_pow_right (by omega) (by omega)
    omega)]
   exact Zal (by omega)
  have a1 := e (n := p.aC) (k := 1) (by omega) (by show p.aC < ((100 : Nat) : Int); omega) (by omega);have a2 := e (n := p.al) (k := 2) (by omega) (by show p.al < ((1000 : Nat) : Int); omega) (by omega);have a3 := e (n := p.am) (k := 2) (by omega) (by show p.am < ((1000 : Nat) : Int); omega) (by omega);have a4 := e (n := p.aB) (k := 7) (by omega) (by show p.aB < ((100000000 : Nat) : Int); omega) (by omega);have a5 := e (n := p.aq) (k := 0) (by omega) (by show p.aq < ((10 : Nat) : Int); omega) (by omega);simp only [Zk, show Zcl.size = 1 from rfl]
  omega
theorem Zkx (a b c d : PtrD) : (fanB [a, b, c, d]).size = (Z2 a).size + (Z2 b).size + (Z2 c).size + (Z2 d).size + 3 := by
 unfold fanB QM;rw [Zh];simp [Go.Lib.join, Go.Lib.joinTail, ZlU, ← Zh]
 omega
theorem ZnC {c : List PtrD} (h : c.length = 4) : ∃ a b x y, c = [a, b, x, y] := by
 match c, h with
 | [a, b, x, y], _ => exact ⟨a, b, x, y, rfl⟩
theorem Zb5 {c : List PtrD} (hn : c.length = 4) (ho : ∀ p ∈ c, p.ok = true) : inB ((fanB c).size : Int) 1 128 = true := by
 obtain ⟨a, b, x, y, rfl⟩ := ZnC hn;rw [Zkx];have h1 := Zb4 (ho a (by simp)); have h2 := Zb4 (ho b (by simp)); have h3 := Zb4 (ho x (by simp)); have h4 := Zb4 (ho y (by simp));exact XT (by omega) (by omega)
def Xm (st : Za) (c : List PtrD) (w : PtrD) : Bool := !w.hole && (Qi w (fanB c) && ((Yt st w).toList == (fanB c).toList))
structure ZeP where
  st : Za
  p : PtrD
  ok : Bool
def Yg (st : Za) (c : List PtrD) (lv : Int) (w : PtrD) : ZeP :=
 if c.all (fun p => p.hole) = true then ⟨st, PtrD.zero, true⟩
 else if Xm st c w = true then ⟨st, w, true⟩
 else if writeAt st (fanB c) lv < 64 then ⟨st.putAt (writeAt st (fanB c) lv) (st.ac.set (writeAt st (fanB c) lv) (fanB c)), YW (writeAt st (fanB c) lv : Nat) st.av lv (fanB c), true⟩
 else ⟨st, PtrD.zero, false⟩
section
variable {st : Za} {c : List PtrD} {lv : Int} {w : PtrD}
theorem Vm (h : c.all (fun p => p.hole) = true) : Yg st c lv w = ⟨st, PtrD.zero, true⟩ := by unfold Yg; rw [if_pos h]
theorem Vn (h : c.all (fun p => p.hole) = false) (hs : Xm st c w = true) : Yg st c lv w = ⟨st, w, true⟩ := by unfold Yg; rw [if_neg (by rw [h]; decide), if_pos hs]
theorem Zeh (h : c.all (fun p => p.hole) = false) (hs : Xm st c w = false) (hw : writeAt st (fanB c) lv = 64) : Yg st c lv w = ⟨st, PtrD.zero, false⟩ := by unfold Yg; rw [if_neg (by rw [h]; decide), if_neg (by rw [hs]; decide), if_neg (by omega)]
theorem Zc7 (h : c.all (fun p => p.hole) = false) (hs : Xm st c w = false) {i : Nat} (hi : i < 64) (hw : writeAt st (fanB c) lv = i) : Yg st c lv w = ⟨st.putAt i (st.ac.set i (fanB c)), YW (i : Int) st.av lv (fanB c), true⟩ := by unfold Yg; rw [if_neg (by rw [h]; decide), if_neg (by rw [hs]; decide), hw, if_pos hi]
theorem Zgt (h : st.ok = true) : Inv st [] := ⟨h, fun i _ hi => by
 have := Y0.1 (Za.ok_spec h).owed i hi;show ((cnt [] i + cnt (st.ak ++ st.ar) i : Nat) : Int) ≤ _;rw [Jv]; omega⟩
theorem J8 (st : Za) (text : ByteArray) (level : Int) : writeAt st text level ≤ 64 := by
 unfold writeAt
 split
 ·omega
 ·have := Qg (Zby st) 56 8; omega
theorem Zjz {text : ByteArray} {level : Int} (h : st.ok = true) (hsz : inB (text.size : Int) 1 128 = true) (hlv : inB level 0 2 = true) {i : Nat} (hi : i < 64) (hw : writeAt st text level = i) : (st.putAt i (st.ac.set i text)).ok = true := ((Zgt h).write hsz hlv hi hw).1.ok
theorem Zgu {text : ByteArray} {level : Int} (h : st.ok = true) (hsz : inB (text.size : Int) 1 128 = true) (hlv : inB level 0 2 = true) {i : Nat} (hi : i < 64) (hw : writeAt st text level = i) : (YW (i : Int) st.av level text).ok = true := by
 have hp := (Zmb h hsz hlv hi hw).2.2.2.1;unfold XI at hp; rw [Bool.and_eq_true] at hp; exact hp.2
structure J9 (st s : Za) : Prop where
  ok : st.ok = true → s.ok = true
  txg : s.av = st.av
  keep : s.ax = st.ax
  same : s.aA = st.aA
  gone : s.ak = st.ak
  dead : s.ar = st.ar
theorem J9.refl (st : Za) : J9 st st := ⟨id, rfl, rfl, rfl, rfl, rfl⟩
theorem J9.trans {a b c : Za} (h : J9 a b) (k : J9 b c) : J9 a c := ⟨fun e => k.ok (h.ok e), k.txg.trans h.txg, k.keep.trans h.keep, k.same.trans h.same, k.gone.trans h.gone, k.dead.trans h.dead⟩
theorem Zgv (hn : c.length = 4) (ho : ∀ p ∈ c, p.ok = true) (hlv : inB lv 0 2 = true) (hw : w.ok = true) (h0 : st.ok = true) : J9 st (Yg st c lv w).st ∧ (Yg st c lv w).p.ok = true := by
 cases ha : c.all (fun p => p.hole) with
 | true => rw [Vm ha]; exact ⟨J9.refl _, rfl⟩
 | false =>
  cases hs : Xm st c w with
  | true => rw [Vn ha hs]; exact ⟨J9.refl _, hw⟩
  | false =>
   by_cases hi : writeAt st (fanB c) lv < 64
   ·rw [Zc7 ha hs hi rfl]
    exact ⟨⟨fun h => Zjz h (Zb5 hn ho) hlv hi rfl, rfl, rfl, rfl, rfl, rfl⟩, Zgu h0 (Zb5 hn ho) hlv hi rfl⟩
   ·rw [Zeh ha hs (by have := J8 st (fanB c) lv; omega)]; exact ⟨J9.refl _, rfl⟩
end
structure Zdi where
  st : Za
  next : List PtrD
  stays : List PtrD
  ok : Bool
def Xb (lv : Int) : Nat → List PtrD → List PtrD → Za → List PtrD → List PtrD → Zdi
 | 0, _, _, st, next, stays => ⟨st, next, stays, true⟩
 | m + 1, back, was, st, next, stays =>
  if (Yg st (back.take 4) lv (was.headD PtrD.zero)).ok = true
  then Xb lv m (back.drop 4) (was.drop 1) (Yg st (back.take 4) lv (was.headD PtrD.zero)).st (next ++ [(Yg st (back.take 4) lv (was.headD PtrD.zero)).p]) (QU stays (Yg st (back.take 4) lv (was.headD PtrD.zero)).p (was.headD PtrD.zero))
  else ⟨(Yg st (back.take 4) lv (was.headD PtrD.zero)).st, next, stays, false⟩
theorem Zky {lv : Int} {back was next stays : List PtrD} {st : Za} : Xb lv 0 back was st next stays = ⟨st, next, stays, true⟩ := rfl
theorem ZhE {lv : Int} {m : Nat} {back was next stays : List PtrD} {st s : Za} {p : PtrD} (h : Yg st (back.take 4) lv (was.headD PtrD.zero) = ⟨s, p, true⟩) : Xb lv (m + 1) back was st next stays = Xb lv m (back.drop 4) (was.drop 1) s (next ++ [p]) (QU stays p (was.headD PtrD.zero)) := by
 rw [Xb, h, if_pos rfl]
theorem ZjA {lv : Int} {m : Nat} {back was next stays : List PtrD} {st s : Za} {p : PtrD} (h : Yg st (back.take 4) lv (was.headD PtrD.zero) = ⟨s, p, false⟩) : Xb lv (m + 1) back was st next stays = ⟨s, next, stays, false⟩ := by
 rw [Xb, h, if_neg Bool.false_ne_true]
def XJ (l : List PtrD) : List PtrD := l ++ replicate ((4 - l.length % 4) % 4) PtrD.zero
theorem V6 (l : List PtrD) : (XJ l).length = (l.length + 3) / 4 * 4 := by unfold XJ; rw [length_append, List.length_replicate]; omega
theorem ZnD {l : List PtrD} (h : ∀ p ∈ l, p.ok = true) : ∀ p ∈ XJ l, p.ok = true := fun p hp => by
 unfold XJ at hp;rcases mem_append.1 hp with hp | hp
 ·exact h p hp
 ·rw [(mem_replicate.1 hp).2]; rfl
noncomputable def Ye (st : Za) (t : Ze) (depth lv : Nat) : List PtrD :=
 if t.aw = (depth : Int) then (if lv = depth then [t.af] else (kidsS st t.af (depth : Int)).getD YI) else YI
noncomputable def XQ (t : Ze) (depth : Nat) : Nat → Nat → Za → List PtrD → List PtrD → Zdi
 | 0, _, st, list, stays => ⟨st, list, stays, true⟩
 | n + 1, lv, st, list, stays =>
  if (Xb (lv : Int) ((XJ list).length / 4) (XJ list) (Ye st t depth lv) st [] stays).ok = true
  then XQ t depth n (lv + 1) (Xb (lv : Int) ((XJ list).length / 4) (XJ list) (Ye st t depth lv) st [] stays).st (Xb (lv : Int) ((XJ list).length / 4) (XJ list) (Ye st t depth lv) st [] stays).next (Xb (lv : Int) ((XJ list).length / 4) (XJ list) (Ye st t depth lv) st [] stays).stays
  else Xb (lv : Int) ((XJ list).length / 4) (XJ list) (Ye st t depth lv) st [] stays
theorem ZcE {t : Ze} {depth lv : Nat} {st : Za} {list stays : List PtrD} : XQ t depth 0 lv st list stays = ⟨st, list, stays, true⟩ := rfl
theorem Zmr {t : Ze} {depth n lv : Nat} {st s : Za} {list stays next sy : List PtrD} (h : Xb (lv : Int) ((XJ list).length / 4) (XJ list) (Ye st t depth lv) st [] stays = ⟨s, next, sy, true⟩) : XQ t depth (n + 1) lv st list stays = XQ t depth n (lv + 1) s next sy := by
 rw [XQ, h, if_pos rfl]
theorem ZnE {t : Ze} {depth n lv : Nat} {st s : Za} {list stays next sy : List PtrD} (h : Xb (lv : Int) ((XJ list).length / 4) (XJ list) (Ye st t depth lv) st [] stays = ⟨s, next, sy, false⟩) : XQ t depth (n + 1) lv st list stays = ⟨s, next, sy, false⟩ := by
 rw [XQ, h, if_neg Bool.false_ne_true]
noncomputable def ZH (st : Za) (t : Ze) : List PtrD :=
 if t.aw = 0 ∨ t.af.hole = true then [] else t.af :: (if t.aw = 2 then ((kidsS st t.af 2).getD []).filter (fun p => !p.hole) else [])
def Jh (stays : List PtrD) (p : PtrD) : Bool := stays.any fun q => q.eqv p
def Vy (stays : List PtrD) : List PtrD → Za → Za
 | [], s => s
 | p :: r, s => Vy stays r (if Jh stays p = true then s else s.free p)
structure UY where
  st : Za
  t : Ze
  ok : Bool
def tree0 : Ze := ⟨PtrD.zero, 0, 0⟩
noncomputable def XN (st : Za) (t : Ze) (leaves : List PtrD) (many : Nat) : UY :=
 if (XQ t (depthN many) (depthN many) 1 st (leaves.take many) []).ok = true
 then ⟨Vy (XQ t (depthN many) (depthN many) 1 st (leaves.take many) []).stays (ZH st t) (XQ t (depthN many) (depthN many) 1 st (leaves.take many) []).st, ⟨(XQ t (depthN many) (depthN many) 1 st (leaves.take many) []).next.headD PtrD.zero, (depthN many : Nat), many⟩, true⟩
 else ⟨(XQ t (depthN many) (depthN many) 1 st (leaves.take many) []).st, tree0, false⟩
theorem Zei {st s : Za} {t : Ze} {leaves list stays : List PtrD} {many : Nat} (h : XQ t (depthN many) (depthN many) 1 st (leaves.take many) [] = ⟨s, list, stays, true⟩) : XN st t leaves many = ⟨Vy stays (ZH st t) s, ⟨list.headD PtrD.zero, (depthN many : Nat), many⟩, true⟩ := by
 unfold XN; rw [h, if_pos rfl]
theorem ZjB {st s : Za} {t : Ze} {leaves list stays : List PtrD} {many : Nat} (h : XQ t (depthN many) (depthN many) 1 st (leaves.take many) [] = ⟨s, list, stays, false⟩) : XN st t leaves many = ⟨s, tree0, false⟩ := by
 unfold XN; rw [h, if_neg Bool.false_ne_true]
def YE (st : Za) (text : ByteArray) (level : Int) : ZeP :=
 if writeAt st text level < 64 then ⟨st.putAt (writeAt st text level) (st.ac.set (writeAt st text level) text), YW (writeAt st text level : Nat) st.av level text, true⟩
 else ⟨st, PtrD.zero, false⟩
theorem UZ {st : Za} {text : ByteArray} {level : Int} (h : writeAt st text level = 64) : YE st text level = ⟨st, PtrD.zero, false⟩ := by unfold YE; rw [if_neg (by omega)]
theorem Ua {st : Za} {text : ByteArray} {level : Int} {i : Nat} (hi : i < 64) (h : writeAt st text level = i) : YE st text level = ⟨st.putAt i (st.ac.set i text), YW (i : Int) st.av level text, true⟩ := by unfold YE; rw [h, if_pos hi]
theorem Zbg {st : Za} {c : List PtrD} {lv : Int} {w : PtrD} (h : c.all (fun p => p.hole) = false) (hs : Xm st c w = false) : Yg st c lv w = YE st (fanB c) lv := by
 unfold Yg YE; rw [if_neg (by rw [h]; decide), if_neg (by rw [hs]; decide)]
theorem ZhF {st : Za} {text : ByteArray} {level : Int} (h0 : st.ok = true) (hsz : inB (text.size : Int) 1 128 = true) (hlv : inB level 0 2 = true) : J9 st (YE st text level).st ∧ (YE st text level).p.ok = true := by
 by_cases hi : writeAt st text level < 64
 ·rw [Ua hi rfl]
  exact ⟨⟨fun h => Zjz h hsz hlv hi rfl, rfl, rfl, rfl, rfl, rfl⟩, Zgu h0 hsz hlv hi rfl⟩
 ·rw [UZ (by have := J8 st text level; omega)]; exact ⟨J9.refl _, rfl⟩
def XO (st : Za) (old : PtrD) (text : ByteArray) : ZeP :=
 if ((Zn st old).toList == text.toList) = true then ⟨st, old, true⟩ else if text.size = 0 then ⟨st, PtrD.zero, true⟩ else YE st text 0
theorem U0 {st : Za} {old : PtrD} {text : ByteArray} (h : ((Zn st old).toList == text.toList) = true) : XO st old text = ⟨st, old, true⟩ := by unfold XO; rw [if_pos h]
theorem Zav {st : Za} {old : PtrD} {text : ByteArray} (h : ((Zn st old).toList == text.toList) = false) (h0 : text.size = 0) : XO st old text = ⟨st, PtrD.zero, true⟩ := by unfold XO; rw [if_neg (by rw [h]; decide), if_pos h0]
theorem V7 {st : Za} {old : PtrD} {text : ByteArray} (h : ((Zn st old).toList == text.toList) = false) (h0 : text.size ≠ 0) : XO st old text = YE st text 0 := by unfold XO; rw [if_neg (by rw [h]; decide), if_neg h0]
noncomputable def XK (st : Za) (t : Ze) (x : List PtrD) (k : Nat) (text : ByteArray) : UY :=
 if ((Zn st ((Zo x).getD k PtrD.zero)).toList == text.toList) = true ∧ max t.ai ((k : Int) + 1) = t.ai then ⟨st, t, true⟩
 else if (XO st ((Zo x).getD k PtrD.zero) text).ok = true then
  if (XN (XO st ((Zo x).getD k PtrD.zero) text).st t ((Zo x).set k (XO st ((Zo x).getD k PtrD.zero) text).p) (max t.ai ((k : Int) + 1)).toNat).ok = true
  then ⟨if (XO st ((Zo x).getD k PtrD.zero) text).p.eqv ((Zo x).getD k PtrD.zero) = true then (XN (XO st ((Zo x).getD k PtrD.zero) text).st t ((Zo x).set k (XO st ((Zo x).getD k PtrD.zero) text).p) (max t.ai ((k : Int) + 1)).toNat).st else (XN (XO st ((Zo x).getD k PtrD.zero) text).st t ((Zo x).set k (XO st ((Zo x).getD k PtrD.zero) text).p) (max t.ai ((k : Int) + 1)).toNat).st.free ((Zo x).getD k PtrD.zero), (XN (XO st ((Zo x).getD k PtrD.zero) text).st t ((Zo x).set k (XO st ((Zo x).getD k PtrD.zero) text).p) (max t.ai ((k : Int) + 1)).toNat).t, true⟩
  else XN (XO st ((Zo x).getD k PtrD.zero) text).st t ((Zo x).set k (XO st ((Zo x).getD k PtrD.zero) text).p) (max t.ai ((k : Int) + 1)).toNat
 else ⟨st, t, false⟩
section
variable {st s : Za} {t y : Ze} {x : List PtrD} {k : Nat} {text : ByteArray} {old p : PtrD}
theorem U1 {r : ZeP} {b : Bool} (h : r.ok = b) : r = ⟨r.st, r.p, b⟩ := by subst h; rfl
theorem Zej (ho : (Zo x).getD k PtrD.zero = old) (h : ((Zn st old).toList == text.toList) = true) (hm : max t.ai ((k : Int) + 1) = t.ai) : XK st t x k text = ⟨st, t, true⟩ := by
 subst ho; unfold XK; rw [if_pos ⟨h, hm⟩]
theorem ZfF {s : Za} (ho : (Zo x).getD k PtrD.zero = old) (h : ((Zn st old).toList == text.toList) = false) (hp : XO st old text = ⟨s, p, false⟩) : XK st t x k text = ⟨st, t, false⟩ := by
 subst ho; unfold XK; rw [if_neg fun e => by rw [h] at e; exact absurd e.1 (by decide), hp, if_neg Bool.false_ne_true]
theorem Qm {many : Nat} (ho : (Zo x).getD k PtrD.zero = old) (hm : max t.ai ((k : Int) + 1) = (many : Int)) (h : ¬ (((Zn st old).toList == text.toList) = true ∧ (many : Int) = t.ai)) (hp : XO st old text = ⟨s, p, true⟩) :
  XK st t x k text = (if (XN s t ((Zo x).set k p) many).ok = true then ⟨if p.eqv old = true then (XN s t ((Zo x).set k p) many).st else (XN s t ((Zo x).set k p) many).st.free old, (XN s t ((Zo x).set k p) many).t, true⟩ else XN s t ((Zo x).set k p) many) := by
 subst ho; unfold XK; rw [hm, if_neg h, hp, if_pos rfl, Int.toNat_natCast]
end
def Qo (l : List PtrD) (st : Za) : Za := l.foldl (fun s p => s.free p) st
noncomputable def QX (st : Za) (t : Ze) (x : List PtrD) (many : Nat) : UY :=
 if (many : Int) = t.ai then ⟨st, t, true⟩
 else if (XN st t (Zo x) many).ok = true then ⟨Qo ((Zo x).drop many) (XN st t (Zo x) many).st, (XN st t (Zo x) many).t, true⟩
 else ⟨(XN st t (Zo x) many).st, t, false⟩
structure SQ where
  a0 : Option Addr
  c0 : Nat
  a1 : Option Addr
  c1 : Nat
  a2 : Option Addr
  c2 : Nat
  a4 : Option Addr
  c4 : Nat
  a6 : Option Addr
  c6 : Nat
  d : Za
abbrev SQ.l (q : SQ) : List Value := [.slice q.a0 q.d.ac.length q.c0, .slice q.a1 q.d.aa.ag.length q.c1, .slice q.a2 q.d.aa.au.length q.c2, .int .i64 q.d.av, .slice q.a4 q.d.ak.length q.c4, .int .i64 q.d.ax, .slice q.a6 q.d.ar.length q.c6, .bool q.d.aA]
abbrev SQ.u (q : SQ) : Value := .agg #[.slice q.a0 q.d.ac.length q.c0, .slice q.a1 q.d.aa.ag.length q.c1, .slice q.a2 q.d.aa.au.length q.c2, .int .i64 q.d.av, .slice q.a4 q.d.ak.length q.c4, .int .i64 q.d.ax, .slice q.a6 q.d.ar.length q.c6, .bool q.d.aA]
abbrev fL (q : SQ) (t : Ze) (b : Bool) : List Value := [.slice q.a0 q.d.ac.length q.c0, .slice q.a1 q.d.aa.ag.length q.c1, .slice q.a2 q.d.aa.au.length q.c2, .int .i64 q.d.av, .slice q.a4 q.d.ak.length q.c4, .int .i64 q.d.ax, .slice q.a6 q.d.ar.length q.c6, .bool q.d.aA, .int .i64 t.af.aC, .int .i64 t.af.al, .int .i64 t.af.am, .int .i64 t.af.aB, .int .i64 t.af.aq, .int .i64 t.aw, .int .i64 t.ai, .bool b]
abbrev fV (q : SQ) (t : Ze) (b : Bool) : Value := .agg #[.slice q.a0 q.d.ac.length q.c0, .slice q.a1 q.d.aa.ag.length q.c1, .slice q.a2 q.d.aa.au.length q.c2, .int .i64 q.d.av, .slice q.a4 q.d.ak.length q.c4, .int .i64 q.d.ax, .slice q.a6 q.d.ar.length q.c6, .bool q.d.aA, .int .i64 t.af.aC, .int .i64 t.af.al, .int .i64 t.af.am, .int .i64 t.af.aB, .int .i64 t.af.aq, .int .i64 t.aw, .int .i64 t.ai, .bool b]
def SQ.v (q : SQ) : Value := .agg #[.slice q.a0 q.d.ac.length q.c0, .slice q.a1 q.d.aa.ag.length q.c1, .slice q.a2 q.d.aa.au.length q.c2, .int .i64 q.d.av, .slice q.a4 q.d.ak.length q.c4, .int .i64 q.d.ax, .slice q.a6 q.d.ar.length q.c6, .bool q.d.aA]
def SQ.rows (q : SQ) : List Asr := [Zg Zu 1 9 (.slice q.a0 q.d.ac.length q.c0) q.d.ac, Zg ZG 1 3 (.slice q.a1 q.d.aa.ag.length q.c1) q.d.aa.ag, Zg ZG 1 3 (.slice q.a2 q.d.aa.au.length q.c2) q.d.aa.au, Zg PtrD.cells 5 24 (.slice q.a4 q.d.ak.length q.c4) q.d.ak, Zg PtrD.cells 5 24 (.slice q.a6 q.d.ar.length q.c6) q.d.ar]
def SQ.asr (q : SQ) : Asr := sepA q.rows
theorem St.sqOut {W w : World} {q : SQ} {F : List Asr} (h : St W (q.asr :: F) w) : St W (q.rows ++ F) w := St.join.2 h
theorem St.sqIn {W w : World} {q : SQ} {F : List Asr} (h : St W (q.rows ++ F) w) : St W (q.asr :: F) w := St.join.1 h
theorem St.sqRd {W w : World} {s : List Asr} (h : St W s w) (i : Nat) {q : SQ} (hi : s[i]? = some q.asr) : Rd Zu 1 w q.a0 q.d.ac.length q.d.ac := St.rdOf (h.pick i hi).sqOut Zf 0 rfl
theorem St.sqReads {W w : World} {s : List Asr} (h : St W s w) (i : Nat) {q : SQ} (hi : s[i]? = some q.asr) : Za.Reads w q.v q.d := Za.reads_of (h.pick i hi).sqOut q.d q.a0 q.c0 q.a1 q.c1 q.a2 q.c2 q.a4 q.c4 q.a6 q.c6 0 1 2 3 4 rfl rfl rfl rfl rfl
theorem Zb6 (w0 w : World) (q : SQ) (text : ByteArray) (level : Int) (F : List Asr) (hok : q.d.ok = true) (hsz : inB (text.size : Int) 1 128 = true) (hlv : inB level 0 2 = true) (hS : St w0 (q.asr :: F) w) :
  Calls prog 149 #[.agg #[.slice q.a0 q.d.ac.length q.c0, .slice q.a1 q.d.aa.ag.length q.c1, .slice q.a2 q.d.aa.au.length q.c2, .int .i64 q.d.av, .slice q.a4 q.d.ak.length q.c4, .int .i64 q.d.ax, .slice q.a6 q.d.ar.length q.c6, .bool q.d.aA], .string text, .int .i64 level] w fun e w' => ∃ (q' : SQ) (r : ZeP), r = YE q.d text level ∧ q' = { q with d := r.st } ∧ e = .returned (.tuple #[.agg #[.slice q'.a0 q'.d.ac.length q'.c0, .slice q'.a1 q'.d.aa.ag.length q'.c1, .slice q'.a2 q'.d.aa.au.length q'.c2, .int .i64 q'.d.av, .slice q'.a4 q'.d.ak.length q'.c4, .int .i64 q'.d.ax, .slice q'.a6 q'.d.ar.length q'.c6, .bool q'.d.aA], .agg #[.int .i64 r.p.aC, .int .i64 r.p.al, .int .i64 r.p.am, .int .i64 r.p.aB, .int .i64 r.p.aq], .bool r.ok]) ∧ St w0 (q'.asr :: F) w' := by
 have hOK := Za.ok_spec hok;have hSP := Zq.ok_spec hOK.space;have hs2 := Zs hsz;have hWS := Zoz (level := level) hok hsz;refine (Zhs w0 w q.a0 q.c0 q.a1 q.c1 q.a2 q.c2 q.a4 q.c4 q.a6 q.c6 q.d text level F hS.sqOut hOK.rows hSP.refs hSP.last (by omega) hSP.all).mono ?_;rintro e w' (⟨hws, rfl, hs1⟩ | ⟨i, hi6, hws, ⟨hpf, rfl, hs1⟩ | ⟨hpt, rfl, hs1⟩⟩)
 ·exact ⟨q, _, rfl, by rw [UZ (hWS.1 hws)] <;> rfl, by rw [UZ (hWS.1 hws)]; rfl, St.sqIn hs1⟩
 ·have hwa := hWS.2 i hws
  obtain ⟨_, _, _, hpk, _⟩ := Zmb hok hsz hlv hi6 hwa;rw [hpk] at hpf; cases hpf
 ·have hwa := hWS.2 i hws
  have e0 : (q.d.ac.set i text).length = q.d.ac.length := length_set;have e1 : (q.d.aa.ag.set i (q.d.aa.ag.getD i 0 + 1)).length = q.d.aa.ag.length := length_set;have e2 : (q.d.aa.au.set i q.d.av).length = q.d.aa.au.length := length_set;refine ⟨⟨q.a0, q.c0, q.a1, q.c1, q.a2, q.c2, q.a4, q.c4, q.a6, q.c6, q.d.putAt i (q.d.ac.set i text)⟩, _, rfl, by rw [Ua hi6 hwa] <;> rfl, ?_, ?_⟩
  ·rw [Ua hi6 hwa]; dsimp only [Za.putAt]; rw [e0, e1, e2, Ze2 hpt]
  ·refine St.sqIn ?_
   show St w0 ([Zg Zu 1 _ (.slice q.a0 (q.d.ac.set i text).length q.c0) (q.d.ac.set i text), Zg ZG 1 _ (.slice q.a1 (q.d.aa.ag.set i (q.d.aa.ag.getD i 0 + 1)).length q.c1) (q.d.aa.ag.set i (q.d.aa.ag.getD i 0 + 1)), Zg ZG 1 _ (.slice q.a2 (q.d.aa.au.set i q.d.av).length q.c2) (q.d.aa.au.set i q.d.av), _, _] ++ F) w';rw [e0, e1, e2]; exact hs1
theorem ZcF {l : List PtrD} (h : l.length ≤ 4) : (fanB l).size ≤ 4398046511108 := by
 have := ZdE (l.map Z2) ZlU (Znp l);rw [length_map] at this;have e : ZlU.size = 1 := rfl;rw [e] at this;have h2 : l.length * (1 + 1099511627776) ≤ 4 * (1 + 1099511627776) := Nat.mul_le_mul_right _ h;unfold fanB; omega
theorem JF {xs : List PtrD} {i : Nat} (hi : i < xs.length) : xs.take (i + 1) = xs.take i ++ [xs.getD i PtrD.zero] := by
 rw [List.take_succ_eq_append_getElem hi, getD_eq_getElem?_getD, List.getElem?_eq_getElem hi]; rfl
theorem Zek {xs : List PtrD} {i : Nat} (hi : i < xs.length) (h0 : i = 0) : fanB (xs.take i) ++ Z2 (xs.getD i PtrD.zero) = fanB (xs.take (i + 1)) := by
 subst h0;rw [JF hi];unfold fanB;rw [List.take_zero, nil_append, List.map_nil, map_cons, List.map_nil, Zkr, Zks];exact ByteArray.ext (by simp)
theorem ZfG {xs : List PtrD} {i : Nat} (hi : i < xs.length) (h0 : 0 < i) : (fanB (xs.take i) ++ (⟨#[44]⟩ : ByteArray)) ++ Z2 (xs.getD i PtrD.zero) = fanB (xs.take (i + 1)) := by
 rw [JF hi];unfold fanB;obtain ⟨a, r, e⟩ : ∃ a r, xs.take i = a :: r := by
  cases h : xs.take i with
  | nil => have := congrArg length h; rw [length_take, length_nil] at this; omega
  | cons a r => exact ⟨a, r, rfl⟩
 rw [e, List.map_append, map_cons, map_cons, List.map_nil, ZiF]; rfl
theorem U2 {xs : List PtrD} {i : Nat} (hi : i < xs.length) (f : PtrD → Bool) : (xs.take (i + 1)).any f = ((xs.take i).any f || f (xs.getD i PtrD.zero)) := by
 rw [JF hi, List.any_append, List.any_cons, List.any_nil, Bool.or_false]
theorem ZnF {xs : List PtrD} : (xs.any fun p => !p.hole) = !(xs.all fun p => p.hole) := by
 induction xs with
 | nil => rfl
 | cons p r ih => rw [List.any_cons, List.all_cons, ih, Bool.not_and]
theorem ZfH {xs : List PtrD} {i : Nat} (hi : i < xs.length) (f : PtrD → Bool) : (xs.take (i + 1)).all f = ((xs.take i).all f && f (xs.getD i PtrD.zero)) := by
 rw [JF hi, List.all_append, List.all_cons, List.all_nil, Bool.and_true]
theorem Zms {xs : List PtrD} {i : Nat} {f : PtrD → Bool} (h : (xs.take i).all f = false) : xs.all f = false := by
 rw [← List.take_append_drop i xs, List.all_append, h, Bool.false_and]
theorem ZiL (ao : Option Addr) (n cap : Nat) (xs : List PtrD) (w0 : World) (hnl : n ≤ 1048576) (hR : Rd PtrD.cells 5 w0 ao n xs) : Calls prog 196 #[.slice ao n cap] w0 fun e w' => e = .returned (.bool (xs.all fun p => p.hole)) ∧ Below w0.heap.size w0 w' := by
 have hn := hR.len;obtain ⟨g0, o0, r0⟩ := hR.opn; have R0 := Bx.mk r0; clear r0;have E := Bx.mk (St.start w0);refine ent func196 ntmps196 ?_;refine xsr<|xr 1 rfl<|xne<|xsq<|xsr<|xr 1 rfl<|xne<|xbl ?_;intro a J;refine Zt (ι := Nat) (fun i a w => (i ≤ n ∧ (xs.take i).all (fun p => p.hole) = true) ∧ Fr 16 a [(0, .slice ao n cap), (3, .int .i64 (i : Int))] ∧ St w0 ([]) w) (fun i => n - i) 0 ⟨⟨Nat.zero_le _, rfl⟩, J.ls _, E.o⟩ ?_;clear J E; clear a;rintro i a w1 ⟨⟨hi, hal⟩, J, E⟩;replace E := Bx.mk E;revert a;refine xsq<|xsr<|xr 2 rfl<|xy rfl (vn 24 5 rfl)<|xr 1 rfl<|xne<|xcd 7 rfl (fun _ dcc1=>?_) fun _ dcc1=>?_
 refine xct rfl<|xsk<|xet<|xsq<|xbl<|xsr<|xr 2 rfl<|xy rfl (vxr 24 i 5 rfl (R0.out.ao i (by omega)))<|xy rfl (fun a J=>ylr (cs := pL (xs.getD i PtrD.zero)) rfl (J.ev rfl) (R0.out.elem E.o (Zi (xs := xs) (j := i) (d := PtrD.zero) (by omega)))) ?_;refine ycB (ZA (xs.getD i PtrD.zero) _) func26 E ?_;clear E;intro w2 E;refine xr 1 rfl<|xne<|xcs 15 rfl (fun cc2=>?_) fun cc2=>?_;refine xct rfl<|xsr<|xr 1 rfl<|xne<|xre<|xbr<|xtr<|xtr<|xbr<|xtr<|xb1 results196 rfl ?_;have hA : xs.all (fun p => p.hole) = false := Zms (i := i + 1) (by rw [ZfH (by omega), show (xs.getD i PtrD.zero).hole = false from (by simpa using cc2), Bool.and_false]);exact ⟨by rw [hA], E.o.bel⟩;refine xcf rfl<|xsk<|xeb<|xet<|xrl<|xr 1 rfl<|xy rfl (vad rfl)<|xr 1 rfl<|xne ?_;have hst : (xs.take (i + 1)).all (fun p => p.hole) = true := by rw [ZfH (by omega), hal, show (xs.getD i PtrD.zero).hole = true from (by simpa using cc2)]; rfl
 intro a J;exact ⟨i + 1, ⟨⟨by omega, hst⟩, J.less _ ⟨rfl, rfl, trivial⟩, E.o⟩, (by omega)⟩;refine xcf rfl<|xex<|xtx<|xtx<|xbh<|xet<|xsr<|xr 1 rfl<|xne<|xre<|xb1 results196 rfl ?_;have hA : xs.all (fun p => p.hole) = true := (by rw [List.take_of_length_le (by omega)] at hal; exact hal);exact ⟨by rw [hA], E.o.bel⟩
theorem Zel (ao : Option Addr) (cap : Nat) (xs : List PtrD) (w0 : World) (hR : Rd PtrD.cells 5 w0 ao 4 xs) (hok : ∀ p ∈ xs, p.ok = true) (hall : xs.all (fun p => p.hole) = false) : Calls prog 197 #[.slice ao 4 cap] w0 fun e w' => e = .returned (.tuple #[.string (fanB xs), .bool true]) ∧ Below w0.heap.size w0 w' := by
 have hn := hR.len;obtain ⟨g0, o0, r0⟩ := hR.opn; have R0 := Bx.mk r0; clear r0;have E := Bx.mk (St.start w0);refine ent func197 ntmps197 ?_;refine xsr<|xr 2 rfl<|xne<|xsr<|xr 1 rfl<|xne<|xsr<|xr 1 rfl<|xne<|xsq<|xsr<|xr 1 rfl<|xy rfl (vn 24 5 rfl)<|xr 1 rfl<|xne ?_;intro a J;replace J := J.know (k := 9) (c := false) rfl (by decide);revert a;refine xcf rfl<|xsk<|xet<|xsq<|xsr<|xr 1 rfl<|xne<|xbl ?_;intro a J;refine Zt (ι := Nat) (fun i a w => (i ≤ 4 ∧ (fanB (xs.take i)).size ≤ 4398046511108) ∧ Fr 45 a [(0, .slice ao 4 cap), (4, .string (fanB (xs.take i))), (5, .bool ((xs.take i).any fun p => !p.hole)), (6, .int .i64 (i : Int))] ∧ St w0 ([]) w) (fun i => 4 - i) 0 ⟨⟨Nat.zero_le _, ZcF (by simp)⟩, J.less _ ⟨rfl, rfl, rfl, rfl, trivial⟩, E.o⟩ ?_;clear J E; clear a;rintro i a w1 ⟨⟨hi, hfs⟩, J, E⟩;replace E := Bx.mk E;have hpl := ZbI (xs.getD i PtrD.zero);revert a;refine xsq<|xsr<|xr 2 rfl<|xy rfl (vn 24 5 rfl)<|xr 1 rfl<|xne<|xcd 13 rfl (fun _ dcc1=>?_) fun _ dcc1=>?_
 refine xct rfl<|xsk<|xet<|xsq<|xbl<|xsq<|xsr<|xr 2 rfl<|xy rfl (vxr 24 i 5 rfl (R0.out.ao i (by omega)))<|xy rfl (fun a J=>ylr (cs := pL (xs.getD i PtrD.zero)) rfl (J.ev rfl) (R0.out.elem E.o (Zi (xs := xs) (j := i) (d := PtrD.zero) (by omega)))) ?_;refine ycB (ZR (xs.getD i PtrD.zero) _) func24 E ?_;clear E;intro w2 E;refine xr 1 rfl<|xne<|xcs 21 rfl (fun cc2=>?_) fun cc2=>?_;have h9 := hok _ (YK (xs := xs) (i := i) (by omega)); rw [h9] at cc2; cases cc2;refine xcf rfl<|xsk<|xet<|xsr<|xr 2 rfl<|xcs 23 rfl (fun cc3=>?_) fun cc3=>?_;refine xr 8 rfl<|xne<|xsq<|xsr<|xr 2 rfl<|xne<|xcd 32 rfl (fun _ dcc4=>?_) fun _ dcc4=>?_;refine xct rfl<|xrl<|xr 1 rfl<|xy rfl (fun a J=>ZE rfl (J.ev rfl) (J.ev rfl) (by (try simp only [Xp, Zk]); omega))<|xr 1 rfl<|xne<|xrl<|xr 3 rfl<|xy rfl (vxr 24 i 5 rfl (R0.out.ao i (by omega)))<|xy rfl (fun a J=>ylr (cs := pL (xs.getD i PtrD.zero)) rfl (J.ev rfl) (R0.out.elem E.o (Zi (xs := xs) (j := i) (d := PtrD.zero) (by omega)))) ?_;refine ycB (Jg (xs.getD i PtrD.zero) _) func32 E ?_;clear E;intro w3 E;refine xy rfl (fun a J=>ZE rfl (J.ev rfl) (J.ev rfl) (by (try simp only [Xp, Zk]); omega))<|xr 1 rfl<|xni<|xeb<|xet<|xrl<|xr 1 rfl<|xy rfl (vad rfl)<|xr 1 rfl<|xne ?_;have hfan := ZfG (xs := xs) (i := i) (by omega) (by omega);have hany := U2 (xs := xs) (i := i) (by omega) (fun p => !p.hole);rw [cc3] at hany; simp only [Bool.true_or] at hany;intro a J;exact ⟨i + 1, ⟨⟨by omega, ZcF (by rw [length_take]; omega)⟩, J.less _ ⟨rfl, (congrArg (fun z => some (Value.string z)) hfan), (congrArg (fun z => some (Value.bool z)) hany.symm), rfl, trivial⟩, E.o⟩, (by omega)⟩;refine xcf rfl<|xsk<|xet<|xrl<|xr 3 rfl<|xy rfl (vxr 24 i 5 rfl (R0.out.ao i (by omega)))<|xy rfl (fun a J=>ylr (cs := pL (xs.getD i PtrD.zero)) rfl (J.ev rfl) (R0.out.elem E.o (Zi (xs := xs) (j := i) (d := PtrD.zero) (by omega)))) ?_;refine ycB (Jg (xs.getD i PtrD.zero) _) func32 E ?_;clear E;intro w4 E;refine xy rfl (fun a J=>ZE rfl (J.ev rfl) (J.ev rfl) (by (try simp only [Xp, Zk]); omega))<|xr 1 rfl<|xni<|xeb<|xet<|xrl<|xr 1 rfl<|xy rfl (vad rfl)<|xr 1 rfl<|xne ?_;have hfan := Zek (xs := xs) (i := i) (by omega) (by omega);have hany := U2 (xs := xs) (i := i) (by omega) (fun p => !p.hole);rw [cc3] at hany; simp only [Bool.true_or] at hany;intro a J;exact ⟨i + 1, ⟨⟨by omega, ZcF (by rw [length_take]; omega)⟩, J.less _ ⟨rfl, (congrArg (fun z => some (Value.string z)) hfan), (congrArg (fun z => some (Value.bool z)) hany.symm), rfl, trivial⟩, E.o⟩, (by omega)⟩;refine xr 2 rfl<|xy rfl (vxr 24 i 5 rfl (R0.out.ao i (by omega)))<|xy rfl (fun a J=>ylr (cs := pL (xs.getD i PtrD.zero)) rfl (J.ev rfl) (R0.out.elem E.o (Zi (xs := xs) (j := i) (d := PtrD.zero) (by omega)))) ?_;refine Zaz (ZA (xs.getD i PtrD.zero) _) func26 E ?_;clear E;intro w5 E;refine xr 3 rfl<|xne<|xsq<|xsr<|xr 2 rfl<|xne<|xcd 32 rfl (fun _ dcc5=>?_) fun _ dcc5=>?_;refine xct rfl<|xrl<|xr 1 rfl<|xy rfl (fun a J=>ZE rfl (J.ev rfl) (J.ev rfl) (by (try simp only [Xp, Zk]); omega))<|xr 1 rfl<|xne<|xrl<|xr 3 rfl<|xy rfl (vxr 24 i 5 rfl (R0.out.ao i (by omega)))<|xy rfl (fun a J=>ylr (cs := pL (xs.getD i PtrD.zero)) rfl (J.ev rfl) (R0.out.elem E.o (Zi (xs := xs) (j := i) (d := PtrD.zero) (by omega)))) ?_;refine ycB (Jg (xs.getD i PtrD.zero) _) func32 E ?_;clear E;intro w6 E;refine xy rfl (fun a J=>ZE rfl (J.ev rfl) (J.ev rfl) (by (try simp only [Xp, Zk]); omega))<|xr 1 rfl<|xni<|xeb<|xet<|xrl<|xr 1 rfl<|xy rfl (vad rfl)<|xr 1 rfl<|xne ?_;have hfan := ZfG (xs := xs) (i := i) (by omega) (by omega);have hany := U2 (xs := xs) (i := i) (by omega) (fun p => !p.hole);rw [cc3] at hany; simp only [Bool.false_or] at hany;intro a J;exact ⟨i + 1, ⟨⟨by omega, ZcF (by rw [length_take]; omega)⟩, J.less _ ⟨rfl, (congrArg (fun z => some (Value.string z)) hfan), (congrArg (fun z => some (Value.bool z)) hany.symm), rfl, trivial⟩, E.o⟩, (by omega)⟩;refine xcf rfl<|xsk<|xet<|xrl<|xr 3 rfl<|xy rfl (vxr 24 i 5 rfl (R0.out.ao i (by omega)))<|xy rfl (fun a J=>ylr (cs := pL (xs.getD i PtrD.zero)) rfl (J.ev rfl) (R0.out.elem E.o (Zi (xs := xs) (j := i) (d := PtrD.zero) (by omega)))) ?_;refine ycB (Jg (xs.getD i PtrD.zero) _) func32 E ?_;clear E;intro w7 E;refine xy rfl (fun a J=>ZE rfl (J.ev rfl) (J.ev rfl) (by (try simp only [Xp, Zk]); omega))<|xr 1 rfl<|xni<|xeb<|xet<|xrl<|xr 1 rfl<|xy rfl (vad rfl)<|xr 1 rfl<|xne ?_;have hfan := Zek (xs := xs) (i := i) (by omega) (by omega);have hany := U2 (xs := xs) (i := i) (by omega) (fun p => !p.hole);rw [cc3] at hany; simp only [Bool.false_or] at hany;intro a J;exact ⟨i + 1, ⟨⟨by omega, ZcF (by rw [length_take]; omega)⟩, J.less _ ⟨rfl, (congrArg (fun z => some (Value.string z)) hfan), (congrArg (fun z => some (Value.bool z)) hany.symm), rfl, trivial⟩, E.o⟩, (by omega)⟩;refine xcf rfl<|xex<|xtx<|xtx<|xbh<|xet<|xsq<|xsr<|xr 2 rfl<|xne<|xcs 43 rfl (fun cc6=>?_) fun cc6=>?_;refine xct rfl<|xsr<|xr 2 rfl<|xne<|xre<|xtr<|xb2 results197 rfl rfl ?_;have h9 : (xs.take i).any (fun p => !p.hole) = false := by simpa using cc6
 rw [List.take_of_length_le (by omega), ZnF, hall] at h9; cases h9;refine xcf rfl<|xsk<|xet<|xsr<|xr 3 rfl<|xne<|xre<|xb2 results197 rfl rfl ?_;have hx9 : xs.take i = xs := List.take_of_length_le (by omega);exact ⟨by rw [hx9], E.o.bel⟩
theorem ZhG (a0 : Option Addr) (c0 : Nat) (a1 : Option Addr) (c1 : Nat) (a2 : Option Addr) (c2 : Nat) (a4 : Option Addr) (c4 : Nat) (a6 : Option Addr) (c6 : Nat) (st : Za) (t : Ze) (hkid : t.aw = 2 → t.af.hole = false → kidsS st t.af 2 ≠ none) (w0 : World) (hR : Rd Zu 1 w0 a0 st.ac.length st.ac) (hrow : Xv st) : Calls prog 181 #[sV a0 c0 a1 c1 a2 c2 a4 c4 a6 c6 st, tV t] w0 fun e w' => ∃ ao cp, e = .returned (.slice ao (ZH st t).length cp) ∧ St w0 [Zg PtrD.cells 5 24 (.slice ao (ZH st t).length cp) (ZH st t)] w' := by
 have HR := Bx.mk hR; clear hR;have E := Bx.mk (St.start w0);refine ent func181 ntmps181 ?_;refine xsr ?_;refine ybx E ?_;clear E;intro w1 b1 E;refine ybx E ?_;clear E;intro w2 b2 E;refine xr 1 rfl<|xne<|xsr ?_;refine yem 24 5 E ?_;clear E;intro w3 b3 E;refine xr 1 rfl<|xne<|xsq<|xsr<|Xf 5 rfl<|Xl 0 E rfl rfl<|xr 2 rfl<|xce 13 rfl (fun cc1 dcc1=>?_) fun cc1 dcc1=>?_;refine xr 4 rfl<|xne<|xct rfl<|xsr<|xr 2 rfl<|xne<|xre<|xtr<|xb1 results181 rfl ?_;have hI : ZH st t = [] := if_pos (by first | exact .inl (by omega) | exact .inr (by simpa using cc1));exact ⟨(some ⟨b3, 0, none⟩), 0, by rw [hI]; rfl, by rw [hI]; exact ((((E.o).nilRow PtrD.cells 5 24 (some ⟨b3, 0, none⟩)).erase 2).erase 1)⟩;refine Xf 0 rfl<|Xw 0 5 E rfl rfl ?_;refine Zaz (ZA t.af _) func26 E ?_;clear E;intro w4 E;refine xr 1 rfl<|xne<|xcs 17 rfl (fun cc2=>?_) fun cc2=>?_;refine xct rfl<|xsr<|xr 2 rfl<|xne<|xre<|xtr<|xb1 results181 rfl ?_;have hI : ZH st t = [] := if_pos (by first | exact .inl (by omega) | exact .inr (by simpa using cc2));exact ⟨(some ⟨b3, 0, none⟩), 0, by rw [hI]; rfl, by rw [hI]; exact ((((E.o).nilRow PtrD.cells 5 24 (some ⟨b3, 0, none⟩)).erase 2).erase 1)⟩;have hnh := cc2;refine xcf rfl<|xsk<|xet<|xsr<|xr 1 rfl<|Xf 0 rfl<|Xw 0 5 E rfl rfl ?_;refine ybs PtrD.cells 24 5 [t.af] E ?_;clear E;intro b4 w5 E;replace E := Bx.mk (E.o.nilRow PtrD.cells 5 24 (some ⟨b3, 0, none⟩));refine yap Xu PtrD.cells_len E 0 (St.rdN E.o PtrD.cells_len 1 rfl) (Zz _) ?_;clear E;intro ao6 cp7 w6 E;refine xr 1 rfl<|xne<|xsq<|xsr<|Xf 5 rfl<|Xl 2 E rfl rfl<|xr 1 rfl<|xne<|xce 26 rfl (fun _ dcc3=>?_) fun _ dcc3=>?_;refine xct rfl<|xsr<|Xw 3 8 E rfl rfl<|Xf 0 rfl<|Xw 2 5 E rfl rfl ?_;refine yc (Uo a0 c0 a1 c1 a2 c2 a4 c4 a6 c6 st t.af 2 _ (HR.out.below E.o.bel) hrow) func165 ?_;rintro _ w7 (⟨l8, hk8, ao8, cp8, rfl, hs1⟩ | ⟨hk8, ao8, nn8, cp8, rfl, hb⟩);have hll8 := Qb hk8;refine ⟨_, rfl, ?_⟩; replace E := E.ad hs1;clear hs1;refine xr 5 rfl<|xne<|xsr<|xr 1 rfl<|xne<|xbl ?_;have hz9 : ([] : List PtrD).length + ([t.af]).length = (([]) ++ ([t.af])).length := by simp only [length_append, length_nil, length_cons]
 intro a J;rw [hz9] at E J;replace E:=E.pks [1];refine Zt (ι := Nat) (fun i a w => ∃ (ao : Option Addr) (cp : Nat) (os : List PtrD), (i ≤ l8.length ∧ os = [t.af] ++ (l8.take i).filter (fun p => !p.hole)) ∧ Fr 54 a [(2, .pointer (some ⟨b1, 0, none⟩)), (3, .pointer (some ⟨b2, 0, none⟩)), (6, .slice ao8 l8.length cp8), (5, .slice ao os.length cp), (8, .int .i64 (i : Int))] ∧ St w0 ([Zg PtrD.cells 5 24 (.slice ao os.length cp) os, Zg PtrD.cells 5 24 (.slice ao8 l8.length cp8) l8, Zg PtrD.cells 5 24 (.slice (some ⟨b4, 0, none⟩) 1 1) ([t.af]), boxA b2 7 26 (tV t), boxA b1 8 44 (sV a0 c0 a1 c1 a2 c2 a4 c4 a6 c6 st)]) w) (fun i => l8.length - i) 0 ⟨_, _, _, ⟨Nat.zero_le _, by rw [List.take_zero]; rfl⟩, J.less _ ⟨rfl, rfl, rfl, rfl, rfl, trivial⟩, E.o⟩ ?_;clear J E; clear a;rintro i a w8 ⟨ao, cp, os, ⟨hi, hos⟩, J, E⟩;replace E := Bx.mk E;have hol : os.length ≤ 5 := by rw [hos, length_append]; have h9 := List.length_filter_le (fun p : PtrD => !p.hole) (l8.take i); rw [length_take] at h9; simp only [length_singleton]; omega
 revert a;refine xsq<|xsr<|xr 2 rfl<|xy rfl (vn 24 5 rfl)<|xr 1 rfl<|xne<|xcd 37 rfl (fun _ dcc4=>?_) fun _ dcc4=>?_
 refine xct rfl<|xsk<|xet<|xsq<|xbl<|xsq ?_;replace E:=E.pks [4,4,4,4,4];obtain ⟨g10, rfl, _, _, _, _⟩ := E.o.rowOpen 1 rfl (by omega);refine xrl<|xr 2 rfl<|xy rfl (vx 24 i 5 rfl)<|xy rfl (fun a J=>ylr (cs := pL (l8.getD i PtrD.zero)) rfl (J.ev rfl) (E.o.elem PtrD.cells_len 1 rfl (Zi (xs := l8) (j := i) (d := PtrD.zero) (by omega)))) ?_;refine ycB (ZA (l8.getD i PtrD.zero) _) func26 E ?_;clear E;intro w9 E;refine xr 1 rfl<|xne<|xcs 45 rfl (fun cc5=>?_) fun cc5=>?_;refine xct rfl<|xrl<|xr 3 rfl<|xy rfl (vx 24 i 5 rfl)<|xy rfl (fun a J=>ylr (cs := pL (l8.getD i PtrD.zero)) rfl (J.ev rfl) (E.o.elem PtrD.cells_len 1 rfl (Zi (xs := l8) (j := i) (d := PtrD.zero) (by omega)))) ?_;refine ybs PtrD.cells 24 5 [(l8.getD i PtrD.zero)] E ?_;clear E;intro b11 w10 E;refine yap Xu PtrD.cells_len E 1 (St.rdN E.o PtrD.cells_len 0 rfl) (Zz _) ?_;clear E;intro ao12 cp13 w11 E;refine xr 1 rfl<|xni<|xeb<|xet<|xrl<|xr 1 rfl<|xy rfl (vad rfl)<|xr 1 rfl<|xne ?_;have hz14 : os.length + ([(l8.getD i PtrD.zero)]).length = (os ++ ([(l8.getD i PtrD.zero)])).length := by simp only [length_append, length_nil, length_cons]
 intro a J;rw [hz14] at E J;have hh9 : (l8.getD i PtrD.zero).hole = false := by simpa using cc5
 have hst : (l8.take (i + 1)).filter (fun p => !p.hole) = (l8.take i).filter (fun p => !p.hole) ++ [(l8.getD i PtrD.zero)] := by rw [JF (by omega), filter_append, List.filter_cons, List.filter_nil, hh9]; simp
 replace E:=E.pks [5,5,5,5,5];exact ⟨i + 1, ⟨_, _, _, ⟨by omega, by rw [hst, hos]; simp⟩, J.less _ ⟨rfl, rfl, rfl, rfl, rfl, trivial⟩, (E.o.erase 5)⟩, (by omega)⟩;refine xcf rfl<|xsk<|xeb<|xet<|xrl<|xr 1 rfl<|xy rfl (vad rfl)<|xr 1 rfl<|xne ?_;have hh9 : (l8.getD i PtrD.zero).hole = true := by simpa using cc5
 have hst : (l8.take (i + 1)).filter (fun p => !p.hole) = (l8.take i).filter (fun p => !p.hole) := by rw [JF (by omega), filter_append, List.filter_cons, List.filter_nil, hh9]; simp
 intro a J;exact ⟨i + 1, ⟨_, _, _, ⟨by omega, by rw [hst, hos]⟩, J.less _ ⟨rfl, rfl, rfl, rfl, rfl, trivial⟩, E.o⟩, (by omega)⟩;refine xcf rfl<|xex<|xtx<|xtx<|xbh<|xet<|xsr<|xr 2 rfl<|xne<|xre<|xb1 results181 rfl ?_;have hI : ZH st t = os := by unfold ZH; rw [if_neg (fun h => h.elim (fun h => by omega) (fun h => by rw [hnh] at h; cases h)), if_pos (by omega), hk8, hos, List.take_of_length_le (by omega)]; rfl
 exact ⟨_, _, by rw [hI] <;> rfl, by rw [hI]; exact (E.o.erS [4,3,2,1])⟩;exact absurd hk8 (hkid (by omega) (by simpa using hnh));refine xcf rfl<|xsk<|xet<|xsr<|xr 2 rfl<|xne<|xre<|xb1 results181 rfl ?_;have hI : ZH st t = [t.af] := by unfold ZH; rw [if_neg (fun h => h.elim (fun h => by omega) (fun h => by rw [hnh] at h; cases h)), if_neg (by omega)]
 have hz9 : ([] : List PtrD).length + ([t.af]).length = [t.af].length := by simp only [length_append, length_nil, length_cons]
 exact ⟨_, _, by rw [hI, ← hz9] <;> rfl, by rw [hI, ← hz9]; exact (E.o.erS [3,2,1])⟩
theorem Zkz (a0 : Option Addr) (c0 : Nat) (a1 : Option Addr) (c1 : Nat) (a2 : Option Addr) (c2 : Nat) (a4 : Option Addr) (c4 : Nat) (a6 : Option Addr) (c6 : Nat) (st : Za) (t : Ze) (dp lv : Nat) (w0 : World) (hR : Rd Zu 1 w0 a0 st.ac.length st.ac) (hrow : Xv st) : Calls prog 182 #[sV a0 c0 a1 c1 a2 c2 a4 c4 a6 c6 st, tV t, .int .i64 (dp : Int), .int .i64 (lv : Int)] w0 fun e w' => ∃ ao cp, e = .returned (.slice ao (Ye st t dp lv).length cp) ∧ St w0 [Zg PtrD.cells 5 24 (.slice ao (Ye st t dp lv).length cp) (Ye st t dp lv)] w' := by
 have HR := Bx.mk hR; clear hR;have E := Bx.mk (St.start w0);refine ent func182 ntmps182 ?_;refine xsr ?_;refine ybx E ?_;clear E;intro w1 b1 E;refine ybx E ?_;clear E;intro w2 b2 E;refine xr 1 rfl<|xne<|xsq<|xsr<|Xf 5 rfl<|Xl 0 E rfl rfl<|xr 2 rfl<|xne<|xcn 14 rfl (fun _ dcc1=>?_) fun _ dcc1=>?_;refine xct rfl<|xsr ?_;refine yc (Un 4 (by omega) _) func133 ?_;rintro _ w3 ⟨ao3, cp3, rfl, hs⟩;refine ⟨_, rfl, ?_⟩;replace E := E.ad hs;clear hs;refine xr 1 rfl<|xne<|xre<|xtr<|xb1 results182 rfl ?_;have hO : Ye st t dp lv = replicate 4 PtrD.zero := by unfold Ye; rw [if_neg (by omega)]; rfl
 exact ⟨_, _, by rw [hO] <;> rfl, by rw [hO]; exact (E.o.erS [2,1])⟩;refine xcf rfl<|xsk<|xet<|xsq<|xsr<|xr 3 rfl<|xne<|xce 18 rfl (fun _ dcc2=>?_) fun _ dcc2=>?_;refine xct rfl<|xsr<|Xf 0 rfl<|Xw 0 5 E rfl rfl ?_;refine ybs PtrD.cells 24 5 [t.af] E ?_;clear E;intro b4 w4 E;refine xr 1 rfl<|xne<|xre<|xtr<|xb1 results182 rfl ?_;have hO : Ye st t dp lv = [t.af] := by unfold Ye; rw [if_pos (by omega), if_pos (by omega)]
 exact ⟨_, _, by rw [hO] <;> rfl, by rw [hO]; exact (E.o.erS [2,1])⟩;refine xcf rfl<|xsk<|xet<|xsr<|Xw 1 8 E rfl rfl<|Xf 0 rfl<|Xw 0 5 E rfl rfl<|xr 1 rfl ?_;refine yc (Uo a0 c0 a1 c1 a2 c2 a4 c4 a6 c6 st t.af (dp : Int) _ (HR.out.below E.o.bel) hrow) func165 ?_;rintro _ w5 (⟨l5, hk5, ao5, cp5, rfl, hs1⟩ | ⟨hk5, ao5, nn5, cp5, rfl, hb⟩);have hll5 := Qb hk5;refine ⟨_, rfl, ?_⟩; replace E := E.ad hs1;clear hs1;refine xr 5 rfl<|xne<|xsq<|xsr<|xr 2 rfl<|xne<|xcf rfl<|xsk<|xet<|xsr<|xr 2 rfl<|xne<|xre<|xb1 results182 rfl ?_;have hO : Ye st t dp lv = l5 := by unfold Ye; rw [if_pos (by omega), if_neg (by omega), hk5]; rfl
 exact ⟨_, _, by rw [hO] <;> rfl, by rw [hO]; exact (E.o.erS [2,1])⟩;refine ⟨_, rfl, ?_⟩; replace E := Bx.mk (E.o.later hb);clear hb;refine xr 5 rfl<|xne<|xsq<|xsr<|xr 2 rfl<|xne<|xct rfl<|xsr ?_;refine yc (Un 4 (by omega) _) func133 ?_;rintro _ w6 ⟨ao6, cp6, rfl, hs⟩;refine ⟨_, rfl, ?_⟩;replace E := E.ad hs;clear hs;refine xr 1 rfl<|xne<|xre<|xtr<|xb1 results182 rfl ?_;have hO : Ye st t dp lv = replicate 4 PtrD.zero := by unfold Ye; rw [if_pos (by omega), if_neg (by omega), hk5]; rfl
 exact ⟨_, _, by rw [hO] <;> rfl, by rw [hO]; exact (E.o.erS [2,1])⟩
theorem Zmt {w : World} {g n k : Nat} {L c : List PtrD} (h : Rd PtrD.cells 5 w (some ⟨g, 0, none⟩) n L) (hk : k ≤ n) (hc : (L.drop k).take 4 = c) (hcl : c.length = 4) : Rd PtrD.cells 5 w (some ⟨g, 0 + k * 5, none⟩) 4 c := by
 have h2 := h.dropP hk;subst hc;rw [length_take] at hcl;exact h2.take (by omega)
theorem ZkA (w0 w : World) (d0 : Option Addr) (f0 : Nat) (d1 : Option Addr) (f1 : Nat) (d2 : Option Addr) (f2 : Nat) (d4 : Option Addr) (f4 : Nat) (d6 : Option Addr) (f6 : Nat) (st : Za) (gL cpL kL cpS : Nat) (L c : List PtrD) (lv : Int) (p : PtrD) (F : List Asr) (hkL : kL ≤ L.length) (hc : (L.drop kL).take 4 = c) (hcl : c.length = 4) (hco : ∀ x ∈ c, x.ok = true) (hpo : p.ok = true) (hlv : inB lv 0 2 = true) (hq : st.ok = true) (hS : St w0 (Zg Zu 1 9 (.slice d0 st.ac.length f0) st.ac :: Zg ZG 1 3 (.slice d1 st.aa.ag.length f1) st.aa.ag :: Zg ZG 1 3 (.slice d2 st.aa.au.length f2) st.aa.au :: Zg PtrD.cells 5 24 (.slice d4 st.ak.length f4) st.ak :: Zg PtrD.cells 5 24 (.slice d6 st.ar.length f6) st.ar :: Zg PtrD.cells 5 24 (.slice (some ⟨gL, 0, none⟩) L.length cpL) L :: F) w) : Calls prog 183 #[sV d0 f0 d1 f1 d2 f2 d4 f4 d6 f6 st, .slice (some ⟨gL, 0 + kL * 5, none⟩) 4 cpS, .int .i64 lv, pV p] w fun e w' => ∃ (q' : SQ) (r : ZeP), r = Yg st c lv p ∧ q' = ⟨d0, f0, d1, f1, d2, f2, d4, f4, d6, f6, r.st⟩ ∧ e = .returned (.tuple #[q'.u, pV r.p, .bool r.ok]) ∧ St w0 (q'.asr :: Zg PtrD.cells 5 24 (.slice (some ⟨gL, 0, none⟩) L.length cpL) L :: F) w' := by
 have hOK := Za.ok_spec hq; have hl0 := hOK.rows; have hrow := Xk hq; have hfsz := Zb5 hcl hco; have hfl := ZcF (l := c) (by omega);have E := Bx.mk hS; clear hS;refine ent func183 ntmps183 ?_;refine xsr ?_;refine ybx E ?_;clear E;intro w1 b1 E;refine ybx E ?_;clear E;intro w2 b2 E;refine yal z8 E ?_;clear E;intro w3 b3 E;refine yal z5 E ?_;clear E;intro w4 b4 E;refine xr 1 rfl<|xne<|xsq<|xsr<|xr 1 rfl ?_;refine ycB (ZiL _ 4 _ c _ (by omega) (Zmt (St.rdOf E.o PtrD.cells_len 9 rfl) hkL hc hcl)) func196 E ?_;clear E;intro w5 E;refine xne<|xcs 14 rfl (fun cc1=>?_) fun cc1=>?_;refine xct rfl<|xsr<|Xw 3 8 E rfl rfl<|xy rfl (vb z5 rfl) ?_;refine yst E 1 ?_;clear E;intro w6 E;replace E:=E.nm;refine yst E 0 ?_;clear E;intro w7 E;replace E:=E.nm;refine xr 1 rfl<|xne<|xre<|xtr ?_;intro a J;refine Zx J results183 (J.resBox rfl (E.o.box 1 rfl) (by kernel_rfl)) (J.resBox rfl (E.o.box 0 rfl) (by kernel_rfl)) (J.res rfl) ?_;replace E:=E.pks [9,9,9,9,9,9];exact ⟨⟨d0, f0, d1, f1, d2, f2, d4, f4, d6, f6, st⟩, ⟨st, PtrD.zero, true⟩, (Vm cc1).symm, rfl, rfl, St.sqIn (q := ⟨d0, f0, d1, f1, d2, f2, d4, f4, d6, f6, st⟩) (E.o.erS [9,8,7,6])⟩;have hall := cc1;refine xcf rfl<|xsk<|xet<|xsr<|xr 1 rfl ?_;refine ycB (Zel _ _ c _ (Zmt (St.rdOf E.o PtrD.cells_len 9 rfl) hkL hc hcl) hco hall) func197 E ?_;clear E;intro w8 E;refine xr 5 rfl<|xne<|xsq<|xsq ?_;obtain ⟨g5, rfl, _, _, _, _⟩ := E.o.rowOpen 4 rfl (by omega);refine xrl<|Xw 2 5 E rfl rfl ?_;refine ycB (ZA p _) func26 E ?_;clear E;intro w9 E;refine xr 2 rfl<|xcs 25 rfl (fun cc2=>?_) fun cc2=>?_;have hph : p.hole = false := by simpa using cc2
 have hat := ZiA hpo hph;refine Xw 2 5 E rfl rfl<|xr 1 rfl ?_;refine Zaz (Vw p (fanB c) _ (by omega)) func134 E ?_;clear E;intro w10 E;refine xr 2 rfl<|xcs 30 rfl (fun cc3=>?_) fun cc3=>?_;refine Xf 0 rfl<|Xl 3 E rfl rfl<|Xf 0 rfl<|Xl 2 E rfl rfl<|xy rfl (fun a J=>ZZ (e := 9) (i := p.aC.toNat) (size := 1) rfl (J.ev rfl) (J.ev rfl) (by kernel_rfl) (by omega) (by omega))<|xy rfl (fun a J=>ylo (v := .string (st.ac.getD p.aC.toNat ByteArray.empty)) rfl (J.ev rfl) (E.o.elem1 Zf 4 rfl (Zi (xs := st.ac) (j := p.aC.toNat) (d := ByteArray.empty) (by omega)) rfl))<|xr 1 rfl<|xy rfl (fun a J=>Y7 rfl (J.ev rfl) (J.ev rfl))<|xr 1 rfl<|xne<|xcs 39 rfl (fun cc4=>?_) fun cc4=>?_;refine xct rfl<|xsq ?_;refine hld [1,0] E ?_;clear E;intro w11 E M;refine Hw 0 1 8 E rfl rfl<|Hw 1 0 5 E rfl rfl ?_;refine Zl 2 ?_;refine yos 1 [1,0] M ?_;clear E M;intro w12 E M;refine Zl 3 ?_;refine yos 0 [1,0] M ?_;clear E M;intro w13 E M;refine Hp 4 E rfl ?_;refine hdn ?_;replace E := M; clear M;refine xet<|xre<|xtr ?_;intro a J;refine Zx J results183 (J.resBox rfl (E.o.box 1 rfl) (by kernel_rfl)) (J.resBox rfl (E.o.box 0 rfl) (by kernel_rfl)) (J.res rfl) ?_;have hsm : Xm st c p = true := by unfold Xm; simp only [Yt]; (first | (simp only [cc2, cc3, cc4]; rfl) | simp_all)
 replace E:=E.pks [9,9,9,9,9,9];exact ⟨⟨some ⟨g5, 0, none⟩, f0, d1, f1, d2, f2, d4, f4, d6, f6, st⟩, ⟨st, p, true⟩, (Vn hall hsm).symm, rfl, rfl, St.sqIn (q := ⟨some ⟨g5, 0, none⟩, f0, d1, f1, d2, f2, d4, f4, d6, f6, st⟩) (E.o.erS [9,8,7,6])⟩;refine xcf rfl<|xsk<|xet<|xsr<|Xw 3 8 E rfl rfl<|xr 2 rfl ?_;replace E:=E.pks [8,8,8,8,8];replace E := Bx.mk (St.sqIn (q := ⟨some ⟨g5, 0, none⟩, f0, d1, f1, d2, f2, d4, f4, d6, f6, st⟩) E.o);replace E:=E.pks [0];refine yc (Zb6 w0 _ ⟨some ⟨g5, 0, none⟩, f0, d1, f1, d2, f2, d4, f4, d6, f6, st⟩ (fanB c) lv _ hq hfsz hlv E.o) func149 ?_;rintro _ w14 ⟨q1, r1, hr1, hq1, rfl, hs1⟩;refine ⟨_, rfl, ?_⟩; replace E := Bx.mk hs1;clear hs1;refine xr 3 rfl ?_;refine yst E 2 ?_;clear E;intro w15 E;replace E:=E.nm;refine yst E 1 ?_;clear E;intro w16 E;replace E:=E.nm;refine xr 1 rfl<|xne<|xre ?_;intro a J;refine Zx J results183 (J.resBox rfl (E.o.box 2 rfl) (by kernel_rfl)) (J.resBox rfl (E.o.box 1 rfl) (by kernel_rfl)) (J.res rfl) ?_;have hsm : Xm st c p = false := by unfold Xm; simp only [Yt]; (first | (simp only [cc2, cc3, cc4]; rfl) | simp_all)
 replace E:=E.pks [5,1];exact ⟨q1, r1, (hr1.trans (Zbg hall hsm).symm), hq1, rfl, (E.o.erS [5,4,3,2])⟩;refine xr 9 rfl<|xne<|xcf rfl<|xsk<|xet<|xsr<|Xw 3 8 E rfl rfl<|xr 2 rfl ?_;replace E:=E.pks [8,8,8,8,8];replace E := Bx.mk (St.sqIn (q := ⟨some ⟨g5, 0, none⟩, f0, d1, f1, d2, f2, d4, f4, d6, f6, st⟩) E.o);replace E:=E.pks [0];refine yc (Zb6 w0 _ ⟨some ⟨g5, 0, none⟩, f0, d1, f1, d2, f2, d4, f4, d6, f6, st⟩ (fanB c) lv _ hq hfsz hlv E.o) func149 ?_;rintro _ w17 ⟨q1, r1, hr1, hq1, rfl, hs1⟩;refine ⟨_, rfl, ?_⟩; replace E := Bx.mk hs1;clear hs1;refine xr 3 rfl ?_;refine yst E 2 ?_;clear E;intro w18 E;replace E:=E.nm;refine yst E 1 ?_;clear E;intro w19 E;replace E:=E.nm;refine xr 1 rfl<|xne<|xre ?_;intro a J;refine Zx J results183 (J.resBox rfl (E.o.box 2 rfl) (by kernel_rfl)) (J.resBox rfl (E.o.box 1 rfl) (by kernel_rfl)) (J.res rfl) ?_;have hsm : Xm st c p = false := by unfold Xm; simp only [Yt]; (first | (simp only [cc2, cc3]; rfl) | simp_all)
 replace E:=E.pks [5,1];exact ⟨q1, r1, (hr1.trans (Zbg hall hsm).symm), hq1, rfl, (E.o.erS [5,4,3,2])⟩;refine xr 14 rfl<|xne<|xcf rfl<|xsk<|xet<|xsr<|Xw 3 8 E rfl rfl<|xr 2 rfl ?_;replace E:=E.pks [8,8,8,8,8];replace E := Bx.mk (St.sqIn (q := ⟨some ⟨g5, 0, none⟩, f0, d1, f1, d2, f2, d4, f4, d6, f6, st⟩) E.o);replace E:=E.pks [0];refine yc (Zb6 w0 _ ⟨some ⟨g5, 0, none⟩, f0, d1, f1, d2, f2, d4, f4, d6, f6, st⟩ (fanB c) lv _ hq hfsz hlv E.o) func149 ?_;rintro _ w20 ⟨q1, r1, hr1, hq1, rfl, hs1⟩;refine ⟨_, rfl, ?_⟩; replace E := Bx.mk hs1;clear hs1;refine xr 3 rfl ?_;refine yst E 2 ?_;clear E;intro w21 E;replace E:=E.nm;refine yst E 1 ?_;clear E;intro w22 E;replace E:=E.nm;refine xr 1 rfl<|xne<|xre ?_;intro a J;refine Zx J results183 (J.resBox rfl (E.o.box 2 rfl) (by kernel_rfl)) (J.resBox rfl (E.o.box 1 rfl) (by kernel_rfl)) (J.res rfl) ?_;have hsm : Xm st c p = false := by unfold Xm; simp only [Yt]; (first | (simp only [cc2]; rfl) | simp_all)
 replace E:=E.pks [5,1];exact ⟨q1, r1, (hr1.trans (Zbg hall hsm).symm), hq1, rfl, (E.o.erS [5,4,3,2])⟩
theorem Zmu (w0 w : World) (q : SQ) (gL cpL kL cpS : Nat) (L c : List PtrD) (lv : Int) (p : PtrD) (F : List Asr) (hkL : kL ≤ L.length) (hc : (L.drop kL).take 4 = c) (hcl : c.length = 4) (hco : ∀ x ∈ c, x.ok = true) (hpo : p.ok = true) (hlv : inB lv 0 2 = true) (hq : q.d.ok = true) (hS : St w0 (q.asr :: Zg PtrD.cells 5 24 (.slice (some ⟨gL, 0, none⟩) L.length cpL) L :: F) w) : Calls prog 183 #[.agg #[.slice q.a0 q.d.ac.length q.c0, .slice q.a1 q.d.aa.ag.length q.c1, .slice q.a2 q.d.aa.au.length q.c2, .int .i64 q.d.av, .slice q.a4 q.d.ak.length q.c4, .int .i64 q.d.ax, .slice q.a6 q.d.ar.length q.c6, .bool q.d.aA], .slice (some ⟨gL, 0 + kL * 5, none⟩) 4 cpS, .int .i64 lv, .agg #[.int .i64 p.aC, .int .i64 p.al, .int .i64 p.am, .int .i64 p.aB, .int .i64 p.aq]] w fun e w' => ∃ (q' : SQ) (r : ZeP), r = Yg q.d c lv p ∧ q' = { q with d := r.st } ∧ e = .returned (.tuple #[.agg #[.slice q'.a0 q'.d.ac.length q'.c0, .slice q'.a1 q'.d.aa.ag.length q'.c1, .slice q'.a2 q'.d.aa.au.length q'.c2, .int .i64 q'.d.av, .slice q'.a4 q'.d.ak.length q'.c4, .int .i64 q'.d.ax, .slice q'.a6 q'.d.ar.length q'.c6, .bool q'.d.aA], .agg #[.int .i64 r.p.aC, .int .i64 r.p.al, .int .i64 r.p.am, .int .i64 r.p.aB, .int .i64 r.p.aq], .bool r.ok]) ∧ St w0 (q'.asr :: Zg PtrD.cells 5 24 (.slice (some ⟨gL, 0, none⟩) L.length cpL) L :: F) w' := ZkA w0 w q.a0 q.c0 q.a1 q.c1 q.a2 q.c2 q.a4 q.c4 q.a6 q.c6 q.d gL cpL kL cpS L c lv p F hkL hc hcl hco hpo hlv hq hS.sqOut
structure Vo (k : Nat) (st : Za) : Prop where
  rows : st.ac.length = 64
  refs : st.aa.ag.length = 64
  last : st.aa.au.length = 64
  lo : ∀ i, -(k : Int) ≤ st.aa.ag.getD i 0 ∧ st.aa.ag.getD i 0 ≤ 900
  gone : st.ak.length ≤ 500000 + k
  dead : st.ar.length ≤ 500000 + k
theorem ZkB (s : Zq) (i j : Nat) (hi : i < s.ag.length) : (s.give i).ag.getD j 0 = if i = j then s.ag.getD i 0 - 1 else s.ag.getD j 0 := X1 hi
theorem Vo.free {k : Nat} {st : Za} (h : Vo k st) {p : PtrD} (hp : p.ok = true) : Vo (k + 1) (st.free p) := by
 have hlo : ∀ i, -((k + 1 : Nat) : Int) ≤ st.aa.ag.getD i 0 ∧ st.aa.ag.getD i 0 ≤ 900 := fun i => by have := h.lo i; omega
 cases hh : p.hole with
 | true => rw [Zcs hh]; exact ⟨h.rows, h.refs, h.last, hlo, by have := h.gone; omega, by have := h.dead; omega⟩
 | false =>
  by_cases h1 : p.al ≤ st.ax
  ·rw [Zct hh h1]; exact ⟨h.rows, h.refs, h.last, hlo, by have := h.gone; show st.ak.length ≤ _; omega, by have := h.dead; show (st.ar ++ [p]).length ≤ _; rw [length_append, length_singleton]; omega⟩
  ·by_cases h2 : p.al < st.av
   ·rw [Zcu hh h1 h2]; exact ⟨h.rows, h.refs, h.last, hlo, by have := h.gone; show (st.ak ++ [p]).length ≤ _; rw [length_append, length_singleton]; omega, by have := h.dead; show st.ar.length ≤ _; omega⟩
   ·rw [Zar hh h1 h2]
    refine ⟨by show (Yu _ _ _).length = 64; rw [XF]; exact h.rows, by show (Zq.give _ _).ag.length = 64; rw [Zq.give_refs]; exact h.refs, by show (Zq.give _ _).au.length = 64; rw [Zq.give_last]; exact h.last, fun i => ?_, by have := h.gone; show st.ak.length ≤ _; omega, by have := h.dead; show st.ar.length ≤ _; omega⟩;obtain ⟨a, h8, ha, e⟩ := Zba hp hh;show -((k + 1 : Nat) : Int) ≤ (st.aa.give p.aC.toNat).ag.getD i 0 ∧ (st.aa.give p.aC.toNat).ag.getD i 0 ≤ 900;rw [e, Int.toNat_natCast, ZkB _ _ _ (by rw [h.refs]; exact ha)];have := h.lo a; have := h.lo i
    split <;> omega
theorem ZhH {xs : List Int} {i : Nat} {v : Int} (h : i < xs.length) : (xs.set i v)[i]? = some v := List.getElem?_set_self h
theorem ZkC (p : PtrD) (h0 : 0 ≤ p.aC) (h1 : p.aC ≤ 63) : ((List.range 64).map fun i => cnt [p] i).sum = 1 := by
 obtain ⟨a, ha, e⟩ : ∃ a : Nat, a < 64 ∧ p.aC = (a : Int) := ⟨p.aC.toNat, by omega, by omega⟩;have hc : ∀ i, cnt [p] i = if a = i then 1 else 0 := fun i => by
  rw [Y3, Jv, e]
  by_cases h : a = i
  ·rw [if_pos h, if_pos (by omega)]
  ·rw [if_neg h, if_neg (by omega)]
 rw [show (fun i => cnt [p] i) = fun i => if a = i then 1 else 0 from funext hc];clear hc e h0 h1;revert a
 decide
theorem Zc8 (f g : Nat → Nat) : ∀ l : List Nat, (l.map fun i => f i + g i).sum = (l.map f).sum + (l.map g).sum
 | [] => rfl
 | x :: r => by simp only [map_cons, List.sum_cons, Zc8 f g r]; omega
theorem ZjC : ∀ {ps : List PtrD}, (∀ p ∈ ps, 0 ≤ p.aC ∧ p.aC ≤ 63) → ps.length = ((List.range 64).map fun i => cnt ps i).sum
 | [], _ => by decide
 | p :: r, h => by
  have hp := h p (mem_cons_self ..);have ih := ZjC fun q hq => h q (mem_cons_of_mem _ hq)
  have e : (fun i => cnt (p :: r) i) = fun i => cnt [p] i + cnt r i := funext fun i => by rw [show p :: r = [p] ++ r from rfl, Zj]
  rw [e, Zc8, ZkC p hp.1 hp.2, ← ih, length_cons]; omega
theorem Zmv (f : Nat → Nat) (b : Nat) : ∀ l : List Nat, (∀ i ∈ l, f i ≤ b) → (l.map f).sum ≤ l.length * b
 | [], _ => by simp
 | x :: r, h => by
  have := h x (mem_cons_self ..);have := Zmv f b r fun i hi => h i (mem_cons_of_mem _ hi)
  rw [map_cons, List.sum_cons, length_cons, Nat.succ_mul]; omega
theorem Zgw {st : Za} (h : st.ok = true) : st.ak.length + st.ar.length ≤ 57600 := by
 have hO := Za.ok_spec h;have hP := Zq.ok_spec hO.space;have hin : ∀ {ps : List PtrD} {m : Int}, ps.all (fun p => YH p m) = true → ∀ p ∈ ps, 0 ≤ p.aC ∧ p.aC ≤ 63 := fun {ps m} ha p hp => by
  have := List.all_eq_true.1 ha p hp;unfold YH at this;simp only [Bool.and_eq_true, Bool.not_eq_true', decide_eq_true_eq] at this;have := ZiA this.1 this.2.1
  omega
 have hall : ∀ p ∈ st.ak ++ st.ar, 0 ≤ p.aC ∧ p.aC ≤ 63 := fun p hp => (mem_append.1 hp).elim (hin hO.gone p) (hin hO.dead p)
 have e := ZjC hall;rw [length_append] at e;rw [e];have := Zmv (fun i => cnt (st.ak ++ st.ar) i) 900 (List.range 64) fun i hi => by
  have := Y0.1 hO.owed i (List.mem_range.1 hi);have := (hP.all i).2
  omega
 rw [List.length_range] at this;exact this
theorem Jw {st : Za} (h : st.ok = true) : Vo 0 st := by
 have hO := Za.ok_spec h;have hP := Zq.ok_spec hO.space;have hl := Zgw h;exact ⟨hO.rows, hP.refs, hP.last, fun i => by have := hP.all i; exact ⟨by omega, this.2⟩, by omega, by omega⟩
theorem Vo.more {k m : Nat} {st : Za} (h : Vo k st) (hm : k ≤ m) : Vo m st := ⟨h.rows, h.refs, h.last, fun i => by have := h.lo i; omega, by have := h.gone; omega, by have := h.dead; omega⟩
theorem St.sqClose {W w : World} {d0 : Option Addr} {f0 : Nat} {d1 : Option Addr} {f1 : Nat} {d2 : Option Addr} {f2 : Nat} {d4 : Option Addr} {f4 : Nat} {d6 : Option Addr} {f6 : Nat} {n0 n1 n2 n4 n6 : Nat} {F : List Asr} (s : Za) (h : St W (Zg Zu 1 9 (.slice d0 n0 f0) s.ac :: Zg ZG 1 3 (.slice d1 n1 f1) s.aa.ag :: Zg ZG 1 3 (.slice d2 n2 f2) s.aa.au :: Zg PtrD.cells 5 24 (.slice d4 n4 f4) s.ak :: Zg PtrD.cells 5 24 (.slice d6 n6 f6) s.ar :: F) w) (h0 : n0 = s.ac.length) (h1 : n1 = s.aa.ag.length) (h2 : n2 = s.aa.au.length) (h4 : n4 = s.ak.length) (h6 : n6 = s.ar.length) : St W (SQ.asr ⟨d0, f0, d1, f1, d2, f2, d4, f4, d6, f6, s⟩ :: F) w := by
 subst h0 h1 h2 h4 h6;exact St.sqIn (q := ⟨d0, f0, d1, f1, d2, f2, d4, f4, d6, f6, s⟩) h
theorem ZkD (w0 w : World) (d1 : Option Addr) (f1 : Nat) (d2 : Option Addr) (f2 : Nat) (s : Zq) (i : Nat) (F : List Asr) (hi : i < 64) (h1 : s.ag.length = 64) (h2 : s.au.length = 64) (hlo : -1000000 ≤ s.ag.getD i 0 ∧ s.ag.getD i 0 ≤ 900) (hS : St w0 (Zg ZG 1 3 (.slice d1 s.ag.length f1) s.ag :: Zg ZG 1 3 (.slice d2 s.au.length f2) s.au :: F) w) : Calls prog 131 #[.agg #[.slice d1 s.ag.length f1, .slice d2 s.au.length f2], .int .i64 (i : Int)] w fun e w' => ∃ (d1 d2 : Option Addr), e = .returned (.agg #[.slice d1 s.ag.length f1, .slice d2 s.au.length f2]) ∧ St w0 (Zg ZG 1 3 (.slice d1 s.ag.length f1) ((s.give i).ag) :: Zg ZG 1 3 (.slice d2 s.au.length f2) ((s.give i).au) :: F) w' := by
 have E := Bx.mk hS; clear hS;refine ent func131 ntmps131 ?_;refine xsr ?_;refine ybx E ?_;clear E;intro w1 b1 E;refine yal [.slice none 0 0, .slice none 0 0] E ?_;clear E;intro w2 b2 E;refine xne<|xsq ?_;obtain ⟨g3, rfl, _, _, _, _⟩ := E.o.rowOpen 2 rfl (by omega);intro a J;refine Vc 10 (by kernel_rfl) (by kernel_rfl) E.o ?_;simp only [List.take_succ_cons, List.take_zero, List.drop_succ_cons, List.drop_zero];intro w3 E;replace E := Bx.mk E;refine ZU rfl J rfl rfl (yfa 0 rfl (J.ev rfl)) ?_; clear J a; intro a J;refine ZU rfl J rfl rfl (ylo (v := .slice (some ⟨g3, 0, none⟩) s.ag.length f1) rfl (J.ev rfl) (((E.o.box 1 rfl).cell 0).trans rfl)) ?_; clear J a; intro a J;refine ZU rfl J rfl rfl (Y5 rfl (J.ev rfl)) ?_; clear J a; intro a J;refine ZU rfl J rfl rfl (yfa 0 rfl (J.ev rfl)) ?_; clear J a; intro a J;refine ZU rfl J rfl rfl (ylo (v := .slice (some ⟨g3, 0, none⟩) s.ag.length f1) rfl (J.ev rfl) (((E.o.box 1 rfl).cell 0).trans rfl)) ?_; clear J a; intro a J;refine ZU rfl J rfl rfl (Y5 rfl (J.ev rfl)) ?_; clear J a; intro a J;refine ZU rfl J rfl rfl (ZZ (e := 3) (i := i) (size := 1) rfl (J.ev rfl) (J.ev rfl) (by kernel_rfl) rfl (by omega)) ?_; clear J a; intro a J;refine ZU rfl J rfl rfl (ylo (v := .int .i64 (s.ag.getD i 0)) rfl (J.ev rfl) (E.o.elem1 Zp 2 rfl (Zi (xs := s.ag) (j := i) (d := 0) (by omega)) rfl)) ?_; clear J a; intro a J;refine ZU rfl J rfl rfl (ZO rfl (J.ev rfl) (J.ev rfl) (Yh (by omega))) ?_; clear J a; intro a J;refine ZU rfl J rfl rfl (ZZ (e := 3) (i := i) (size := 1) rfl (J.ev rfl) (J.ev rfl) (by kernel_rfl) rfl (by omega)) ?_; clear J a; intro a J;refine wpStill_nil ?_;refine Yi Zp rfl rfl rfl (J.ev rfl) (J.ev rfl) (by kernel_rfl) E.o 2 rfl (by omega) (z := ((s.ag.getD i 0) - 1)) rfl rfl ?_; clear E; intro w4 E; replace E := Bx.mk E;revert a;refine xne<|xsq<|xsr<|Xf 0 rfl<|Xl 1 E rfl rfl<|xr 1 rfl<|xy rfl (vx 3 i 1 rfl)<|xy rfl (fun a J=>ylo (v := .int .i64 (s.ag.getD i 0 - 1)) rfl (J.ev rfl) (E.o.elem1 Zp 2 rfl (ZhH (xs := s.ag) (i := i) (by omega)) rfl))<|xr 1 rfl<|xne<|xce 20 rfl (fun _ dcc1=>?_) fun _ dcc1=>?_
 refine xct rfl ?_;obtain ⟨g4, rfl, _, _, _, _⟩ := E.o.rowOpen 3 rfl (by omega);refine xrl<|Xf 1 rfl<|Xl 1 E rfl rfl<|xr 1 rfl<|xy rfl (vx 3 i 1 rfl) ?_;intro a J;refine Yi Zp rfl rfl rfl (J.ev rfl) (J.ev rfl) (by kernel_rfl) E.o 3 rfl (by omega) (z := 0) rfl rfl ?_; clear E; intro w5 E; replace E := Bx.mk E;revert a;refine xne<|xsr<|Xw 1 2 E rfl rfl ?_;refine yst E 0 ?_;clear E;intro w6 E;replace E:=E.nm;refine xne<|xre ?_;intro a J;refine ZC J results131 (J.resBox rfl (E.o.box 0 rfl) (by kernel_rfl)) ?_;replace E:=E.pks [3,3];have hg : (s.give i).au = s.au.set i 0 := if_pos (by omega);exact ⟨_, _, rfl, by rw [hg]; exact (E.o.erS [3,2])⟩;refine xcf rfl<|xsk<|xet<|xsr<|Xw 1 2 E rfl rfl ?_;refine yst E 0 ?_;clear E;intro w7 E;replace E:=E.nm;refine xne<|xre ?_;intro a J;refine ZC J results131 (J.resBox rfl (E.o.box 0 rfl) (by kernel_rfl)) ?_;replace E:=E.pks [3,3];have hg : (s.give i).au = s.au := if_neg (by omega);exact ⟨_, _, rfl, by rw [hg]; exact (E.o.erS [3,2])⟩
theorem ZkE (w0 w : World) (d0 : Option Addr) (f0 : Nat) (d1 : Option Addr) (f1 : Nat) (d2 : Option Addr) (f2 : Nat) (d4 : Option Addr) (f4 : Nat) (d6 : Option Addr) (f6 : Nat) (st : Za) (i k : Nat) (F : List Asr) (hi : i < 64) (hK : Vo k st) (hk : k ≤ 1000) (hS : St w0 (Zg Zu 1 9 (.slice d0 st.ac.length f0) st.ac :: Zg ZG 1 3 (.slice d1 st.aa.ag.length f1) st.aa.ag :: Zg ZG 1 3 (.slice d2 st.aa.au.length f2) st.aa.au :: Zg PtrD.cells 5 24 (.slice d4 st.ak.length f4) st.ak :: Zg PtrD.cells 5 24 (.slice d6 st.ar.length f6) st.ar :: F) w) : Calls prog 94 #[sV d0 f0 d1 f1 d2 f2 d4 f4 d6 f6 st, .int .i64 (i : Int)] w fun e w' => ∃ q' : SQ, q'.d = { st with ac := Yu st.ac st.aa i, aa := st.aa.give i } ∧ e = .returned (q'.u) ∧ St w0 (q'.asr :: F) w' := by
 have E := Bx.mk hS; clear hS;have hl0 := hK.rows; have hl1 := hK.refs; have hl2 := hK.last; have hg1 := Zq.give_refs st.aa i;have hgv : (st.aa.give i).ag[i]? = some (st.aa.ag.getD i 0 - 1) := ZhH (by omega);refine ent func94 ntmps94 ?_;refine xsr ?_;refine ybx E ?_;clear E;intro w1 b1 E;refine yal z8 E ?_;clear E;intro w2 b2 E;refine xne<|xsr<|Xf 1 rfl<|Xw 1 2 E rfl rfl<|xr 1 rfl ?_;replace E:=E.pks [4,4];refine yc (ZkD w0 _ d1 f1 d2 f2 st.aa i _ hi hK.refs hK.last (by have := hK.lo i; omega) E.o) func131 ?_;rintro _ w3 ⟨e1, e2, rfl, hs1⟩;refine ⟨_, rfl, ?_⟩; replace E := Bx.mk hs1;clear hs1;refine Xf 1 rfl ?_;intro a J;refine ZX rfl rfl rfl (J.ev rfl) (J.ev rfl) E.o 3 rfl (by kernel_rfl) rfl (by kernel_rfl) (rs := sL d0 f0 e1 f1 e2 f2 d4 f4 d6 f6 st) rfl ?_; clear E; intro w4 E; replace E := Bx.mk E;replace E:=E.nm;refine Zbu<|wp_seq<|wp_seq ?_;obtain ⟨g3, rfl, _, _, _, _⟩ := E.o.rowOpen 0 rfl (by omega);revert a;refine xrl<|Xf 1 rfl<|Xf 0 rfl<|Xl 3 E rfl rfl<|xr 1 rfl<|xy rfl (vx 3 i 1 rfl)<|xy rfl (fun a J=>ylo (v := .int .i64 (st.aa.ag.getD i 0 - 1)) rfl (J.ev rfl) (E.o.elem1 Zp 0 rfl hgv rfl))<|xr 1 rfl<|xne<|xce 16 rfl (fun _ dcc1=>?_) fun _ dcc1=>?_
 refine xct rfl ?_;obtain ⟨g4, rfl, _, _, _, _⟩ := E.o.rowOpen 4 rfl (by omega);refine xrl<|Xf 0 rfl<|Xl 3 E rfl rfl<|xr 1 rfl<|xy rfl (vx 9 i 1 rfl) ?_;intro a J;refine Yi Zf rfl rfl rfl (J.ev rfl) (J.ev rfl) (by kernel_rfl) E.o 4 rfl (by omega) (z := (⟨#[]⟩ : ByteArray)) rfl rfl ?_; clear E; intro w5 E; replace E := Bx.mk E;revert a;refine xne<|xsr<|Xw 3 8 E rfl rfl ?_;refine yst E 2 ?_;clear E;intro w6 E;replace E:=E.nm;refine xne<|xre ?_;intro a J;refine ZC J results94 (J.resBox rfl (E.o.box 2 rfl) (by kernel_rfl)) ?_;replace E:=E.pks [6,6,3,3,6];have hg : Yu st.ac st.aa i = st.ac.set i ByteArray.empty := if_pos (by omega);exact ⟨⟨_, _, _, _, _, _, _, _, _, _, { st with ac := Yu st.ac st.aa i, aa := st.aa.give i }⟩, rfl, by dsimp only [SQ.u]; rw [XF, Zq.give_refs, Zq.give_last] <;> rfl, St.sqClose _ (by dsimp only [SQ.u]; rw [hg]; exact (E.o.erS [6,5])) (XF _ _ _).symm (Zq.give_refs _ _).symm (Zq.give_last _ _).symm rfl rfl⟩;refine xcf rfl<|xsk<|xet<|xsr<|Xw 3 8 E rfl rfl ?_;refine yst E 2 ?_;clear E;intro w7 E;replace E:=E.nm;refine xne<|xre ?_;intro a J;refine ZC J results94 (J.resBox rfl (E.o.box 2 rfl) (by kernel_rfl)) ?_;replace E:=E.pks [6,6,3,3,6];have hg : Yu st.ac st.aa i = st.ac := if_neg (by omega);exact ⟨⟨_, _, _, _, _, _, _, _, _, _, { st with ac := Yu st.ac st.aa i, aa := st.aa.give i }⟩, rfl, by dsimp only [SQ.u]; rw [XF, Zq.give_refs, Zq.give_last] <;> rfl, St.sqClose _ (by dsimp only [SQ.u]; rw [hg]; exact (E.o.erS [6,5])) (XF _ _ _).symm (Zq.give_refs _ _).symm (Zq.give_last _ _).symm rfl rfl⟩
theorem ZfI (w0 w : World) (d0 : Option Addr) (f0 : Nat) (d1 : Option Addr) (f1 : Nat) (d2 : Option Addr) (f2 : Nat) (d4 : Option Addr) (f4 : Nat) (d6 : Option Addr) (f6 : Nat) (st : Za) (a : Int) (i k : Nat) (F : List Asr) (ha : a = (i : Int)) (hi : i < 64) (hK : Vo k st) (hk : k ≤ 1000) (hS : St w0 (Zg Zu 1 9 (.slice d0 st.ac.length f0) st.ac :: Zg ZG 1 3 (.slice d1 st.aa.ag.length f1) st.aa.ag :: Zg ZG 1 3 (.slice d2 st.aa.au.length f2) st.aa.au :: Zg PtrD.cells 5 24 (.slice d4 st.ak.length f4) st.ak :: Zg PtrD.cells 5 24 (.slice d6 st.ar.length f6) st.ar :: F) w) : Calls prog 94 #[.agg #[.slice d0 st.ac.length f0, .slice d1 st.aa.ag.length f1, .slice d2 st.aa.au.length f2, .int .i64 st.av, .slice d4 st.ak.length f4, .int .i64 st.ax, .slice d6 st.ar.length f6, .bool st.aA], .int .i64 a] w fun e w' => ∃ q' : SQ, q'.d = { st with ac := Yu st.ac st.aa i, aa := st.aa.give i } ∧ e = .returned (.agg #[.slice q'.a0 q'.d.ac.length q'.c0, .slice q'.a1 q'.d.aa.ag.length q'.c1, .slice q'.a2 q'.d.aa.au.length q'.c2, .int .i64 q'.d.av, .slice q'.a4 q'.d.ak.length q'.c4, .int .i64 q'.d.ax, .slice q'.a6 q'.d.ar.length q'.c6, .bool q'.d.aA]) ∧ St w0 (q'.asr :: F) w' := by
 subst ha;exact ZkE w0 w d0 f0 d1 f1 d2 f2 d4 f4 d6 f6 st i k F hi hK hk hS
theorem ZkF (w0 w : World) (d0 : Option Addr) (f0 : Nat) (d1 : Option Addr) (f1 : Nat) (d2 : Option Addr) (f2 : Nat) (d4 : Option Addr) (f4 : Nat) (d6 : Option Addr) (f6 : Nat) (st : Za) (p : PtrD) (k : Nat) (F : List Asr) (hpo : p.ok = true) (hK : Vo k st) (hk : k ≤ 1000) (hS : St w0 (Zg Zu 1 9 (.slice d0 st.ac.length f0) st.ac :: Zg ZG 1 3 (.slice d1 st.aa.ag.length f1) st.aa.ag :: Zg ZG 1 3 (.slice d2 st.aa.au.length f2) st.aa.au :: Zg PtrD.cells 5 24 (.slice d4 st.ak.length f4) st.ak :: Zg PtrD.cells 5 24 (.slice d6 st.ar.length f6) st.ar :: F) w) : Calls prog 151 #[sV d0 f0 d1 f1 d2 f2 d4 f4 d6 f6 st, pV p] w fun e w' => ∃ q' : SQ, q'.d = st.free p ∧ e = .returned (q'.u) ∧ St w0 (q'.asr :: F) w' := by
 have E := Bx.mk hS; clear hS;have hg4 := hK.gone; have hg6 := hK.dead;refine ent func151 ntmps151 ?_;refine xsr ?_;refine ybx E ?_;clear E;intro w1 b1 E;refine ybx E ?_;clear E;intro w2 b2 E;refine yal z8 E ?_;clear E;intro w3 b3 E;refine xne<|xsq<|xbl<|xsr<|Xw 1 5 E rfl rfl ?_;refine ycB (ZA p _) func26 E ?_;clear E;intro w4 E;refine xr 1 rfl<|xne<|xcs 9 rfl (fun cc1=>?_) fun cc1=>?_;refine xct rfl<|xsr<|Xw 2 8 E rfl rfl ?_;refine yst E 0 ?_;clear E;intro w5 E;replace E:=E.nm;refine xne<|xre<|xbr<|xtr ?_;intro a J;refine ZC J results151 (J.resBox rfl (E.o.box 0 rfl) (by kernel_rfl)) ?_;replace E:=E.pks [7,7,7,7,7];exact ⟨⟨d0, f0, d1, f1, d2, f2, d4, f4, d6, f6, st⟩, (Zcs (by assumption)).symm, rfl, St.sqIn (q := ⟨d0, f0, d1, f1, d2, f2, d4, f4, d6, f6, st⟩) (E.o.erS [7,6,5])⟩;have hph := cc1;refine xcf rfl<|xsr<|Xf 1 rfl<|Xl 1 E rfl rfl<|Xf 5 rfl<|Xl 2 E rfl rfl<|xr 2 rfl<|xne<|xcd 13 rfl (fun _ dcc2=>?_) fun _ dcc2=>?_;refine xct rfl<|xrl<|Xf 6 rfl<|Xl 2 E rfl rfl<|Xw 1 5 E rfl rfl ?_;refine ybs PtrD.cells 24 5 [p] E ?_;clear E;intro b4 w6 E;intro a J;refine XE rfl J rfl rfl rfl (J.ev rfl) (J.ev rfl) Xu PtrD.cells_len E.o 8 (xs := st.ar) rfl (ys := [p]) (St.rdN E.o PtrD.cells_len 0 rfl) (Zz _) (by unfold maxLen; simp only [length_singleton]; omega) (by simp only [length_singleton]; omega) ?_; clear J E a; intro ao5 cp6 w7 a J E; replace E := Bx.mk E;revert a;refine Xf 6 rfl ?_;refine ysF 3 E ?_;clear E;intro w8 E;replace E:=E.nm;refine xni<|xeb<|xet<|xsr<|Xw 3 8 E rfl rfl ?_;refine yst E 1 ?_;clear E;intro w9 E;replace E:=E.nm;refine xne<|xre ?_;intro a J;refine ZC J results151 (J.resBox rfl (E.o.box 1 rfl) (by kernel_rfl)) ?_;replace E:=E.pks [8,8,8,8,8];exact ⟨⟨_, _, _, _, _, _, _, _, _, _, { st with ar := st.ar ++ [p] }⟩, (Zct hph (by omega)).symm, by dsimp only [SQ.u]; rw [length_append] <;> rfl, St.sqClose { st with ar := st.ar ++ [p] } (E.o.erS [8,7,6,5]) rfl rfl rfl rfl (length_append ..).symm⟩;refine xcf rfl<|xsr<|Xf 1 rfl<|Xl 1 E rfl rfl<|Xf 3 rfl<|Xl 2 E rfl rfl<|xr 2 rfl<|xne<|xcd 25 rfl (fun _ dcc3=>?_) fun _ dcc3=>?_;refine xct rfl<|xrl<|Xf 4 rfl<|Xl 2 E rfl rfl<|Xw 1 5 E rfl rfl ?_;refine ybs PtrD.cells 24 5 [p] E ?_;clear E;intro b7 w10 E;intro a J;refine XE rfl J rfl rfl rfl (J.ev rfl) (J.ev rfl) Xu PtrD.cells_len E.o 7 (xs := st.ak) rfl (ys := [p]) (St.rdN E.o PtrD.cells_len 0 rfl) (Zz _) (by unfold maxLen; simp only [length_singleton]; omega) (by simp only [length_singleton]; omega) ?_; clear J E a; intro ao8 cp9 w11 a J E; replace E := Bx.mk E;revert a;refine Xf 4 rfl ?_;refine ysF 3 E ?_;clear E;intro w12 E;replace E:=E.nm;refine xni<|xeb<|xet<|xsr<|Xw 3 8 E rfl rfl ?_;refine yst E 1 ?_;clear E;intro w13 E;replace E:=E.nm;refine xne<|xre ?_;intro a J;refine ZC J results151 (J.resBox rfl (E.o.box 1 rfl) (by kernel_rfl)) ?_;replace E:=E.pks [8,8,8,8,8];exact ⟨⟨_, _, _, _, _, _, _, _, _, _, { st with ak := st.ak ++ [p] }⟩, (Zcu hph (by omega) (by omega)).symm, by dsimp only [SQ.u]; rw [length_append] <;> rfl, St.sqClose { st with ak := st.ak ++ [p] } (E.o.erS [8,7,6,5]) rfl rfl rfl (length_append ..).symm rfl⟩;refine xcf rfl<|xsr<|Xw 2 8 E rfl rfl<|Xf 0 rfl<|Xl 1 E rfl rfl ?_;replace E:=E.pks [7,7,7,7,7];obtain ⟨i, h8, hi, hpi⟩ := Zba hpo hph;have hi2 : p.aC = ((i : Nat) : Int) := hpi;refine yc (ZfI w0 _ d0 f0 d1 f1 d2 f2 d4 f4 d6 f6 st p.aC i k _ hpi hi hK hk E.o) func94 ?_;rintro _ w14 ⟨q1, hq1, rfl, hs1⟩;refine ⟨_, rfl, ?_⟩; replace E := Bx.mk hs1;clear hs1;refine yst E 1 ?_;clear E;intro w15 E;replace E:=E.nm;refine xne<|xre<|xbr<|xtr ?_;intro a J;refine ZC J results151 (J.resBox rfl (E.o.box 1 rfl) (by kernel_rfl)) ?_;replace E:=E.pks [0];exact ⟨q1, by rw [hq1, Zar hph (by omega) (by omega), hpi, Int.toNat_natCast], rfl, (E.o.erS [3,2,1])⟩
theorem JG (w0 w : World) (q : SQ) (p : PtrD) (k : Nat) (F : List Asr) (hpo : p.ok = true) (hK : Vo k q.d) (hk : k ≤ 1000) (hS : St w0 (q.asr :: F) w) : Calls prog 151 #[.agg #[.slice q.a0 q.d.ac.length q.c0, .slice q.a1 q.d.aa.ag.length q.c1, .slice q.a2 q.d.aa.au.length q.c2, .int .i64 q.d.av, .slice q.a4 q.d.ak.length q.c4, .int .i64 q.d.ax, .slice q.a6 q.d.ar.length q.c6, .bool q.d.aA], .agg #[.int .i64 p.aC, .int .i64 p.al, .int .i64 p.am, .int .i64 p.aB, .int .i64 p.aq]] w fun e w' => ∃ q' : SQ, q'.d = q.d.free p ∧ e = .returned (.agg #[.slice q'.a0 q'.d.ac.length q'.c0, .slice q'.a1 q'.d.aa.ag.length q'.c1, .slice q'.a2 q'.d.aa.au.length q'.c2, .int .i64 q'.d.av, .slice q'.a4 q'.d.ak.length q'.c4, .int .i64 q'.d.ax, .slice q'.a6 q'.d.ar.length q'.c6, .bool q'.d.aA]) ∧ St w0 (q'.asr :: F) w' := ZkF w0 w q.a0 q.c0 q.a1 q.c1 q.a2 q.c2 q.a4 q.c4 q.a6 q.c6 q.d p k F hpo hK hk hS.sqOut
section
variable {P : Program} {o : Oper} {a : Act} {w : World} {e : TypeId}
theorem ZhI {t : TypeId} {x y z : Operand} (ho : o.op = .slice t x (some y) (some z) none) {g off n cap : Nat} (hx : a.eval x = .slice (some ⟨g, off, none⟩) n cap) {kk k2 : IntKind} {m m2 : Int} (hy : a.eval y = .int kk m) (hz : a.eval z = .int k2 m2) {size : Nat} (hu : Yv P t = some (e, size)) {k j : Nat} (hm : m = (k : Int)) (hm2 : m2 = ((k + j : Nat) : Int)) (hc : k + j ≤ cap) (hk : k < cap) : Yl P w o a (.slice (some ⟨g, off + k * size, none⟩) j (cap - k)) := by
 unfold Yv at hu
 split at hu
 ·rename_i e' hu'
  split at hu
  ·rename_i inf hq
   simp only [Option.some.injEq, Prod.mk.injEq] at hu;obtain ⟨_, rfl⟩ := hu;subst hm hm2;have h2 : (((k + j : Nat) : Int) ≤ (cap : Int)) := by omega
   have h3 : ¬ cap = k := by omega
   have h4 : (k : Int) ≤ ((k + j : Nat) : Int) := by omega
   unfold Yl execOp;simp only [ho, hx, hy, hz, Option.map_some, Option.map_none, Instr.sliceAt, Instr.slice, Sem.run_bind, run_underlying hu' w, Result.andThen_ok];simp [Instr.slice, Instr.sliceBounds, Instr.sliceBound, asIntOf, go_sem, run_underlying hu' w, sizeOf, typeInfo, hq, h2, h3, h4, Addr.add];rw [if_pos (by omega)]
   by_cases hz : k * inf.size = 0
   ·rw [if_pos hz, hz, Nat.add_zero, if_pos (show k ≤ ((k : Int) + (j : Int)).toNat by omega), show ((k : Int) + (j : Int)).toNat = k + j by omega, Nat.add_sub_cancel_left]
   ·rw [if_neg hz, if_pos (show k ≤ ((k : Int) + (j : Int)).toNat by omega), show ((k : Int) + (j : Int)).toNat = k + j by omega, Nat.add_sub_cancel_left]
  ·cases hu
 ·cases hu
end
theorem ZfJ {w : World} {o : Oper} {a : Act} {x y : Operand} {t' : TypeId} (p q : PtrD) (ho : o.op = .binOp .eql 24 x y t') (hx : a.eval x = .agg #[.int .i64 p.aC, .int .i64 p.al, .int .i64 p.am, .int .i64 p.aB, .int .i64 p.aq]) (hy : a.eval y = .agg #[.int .i64 q.aC, .int .i64 q.al, .int .i64 q.am, .int .i64 q.aB, .int .i64 q.aq]) : Yl prog w o a (.bool (p.eqv q)) := by
 have he := Zjy p q 9998 w;unfold Yl execOp;simp only [ho, hx, hy];simp [eqGuard, binOp, go_sem, Op.equal];rw [show Op.maxDepth = 9998 + 2 from rfl, he]; rfl
theorem ZjD {dp lv : Nat} (h : dp ≤ 2) (h1 : 1 ≤ lv) : 4 ^ (dp + 1 - lv) ≤ 16 := by
 rcases (by omega : dp + 1 - lv = 0 ∨ dp + 1 - lv = 1 ∨ dp + 1 - lv = 2) with e | e | e <;> rw [e] <;> decide
theorem Zmw (j : Nat) : replicate j PtrD.zero ++ [PtrD.zero] = replicate (j + 1) PtrD.zero := List.replicate_succ'.symm
structure Zem (q0 q : SQ) (t : Ze) (dp : Nat) (R : Zdi) (lv : Nat) (ls sy : List PtrD) : Prop where
  lv1 : 1 ≤ lv
  lvd : lv ≤ dp + 1
  hd : q = { q0 with d := q.d }
  gr : J9 q0.d q.d
  ok : q.d.ok = true
  tot : XQ t dp (dp + 1 - lv) lv q.d ls sy = R
  oks : ∀ p ∈ ls, p.ok = true
  len : ls.length ≤ 4 ^ (dp + 1 - lv)
  syl : sy.length ≤ 4 * (lv - 1)
structure Zdj (q1 q : SQ) (P W0 : List PtrD) (lv m i : Nat) (RL : Zdi) (nx sy : List PtrD) (b : Nat) : Prop where
  im : i ≤ m
  hd : q = { q1 with d := q.d }
  gr : J9 q1.d q.d
  ok : q.d.ok = true
  tot : Xb (lv : Int) (m - i) (P.drop (i * 4)) (W0.drop i) q.d nx sy = RL
  oks : ∀ p ∈ nx, p.ok = true
  len : nx.length = i
  syl : sy.length ≤ b + i
theorem Zem.start {q0 : SQ} {t : Ze} {dp : Nat} {ls : List PtrD} (hok : q0.d.ok = true) (ho : ∀ p ∈ ls, p.ok = true) (hl : ls.length ≤ 4 ^ dp) : Zem q0 q0 t dp (XQ t dp dp 1 q0.d ls []) 1 ls [] :=
 ⟨Nat.le_refl _, by omega, rfl, J9.refl _, hok, rfl, ho, by simpa using hl, Nat.zero_le _⟩
theorem Zmx {st : Za} {t : Ze} {dp lv n : Nat} (h1 : 1 ≤ lv) (h2 : lv ≤ dp) (hd : dp ≤ 2) (hn : n ≤ 4 ^ (dp + 1 - lv)) : (n + 3) / 4 ≤ (Ye st t dp lv).length := by
 have h4 : ∀ k, ((kidsS st t.af k).getD YI).length = 4 := fun k => by
  cases h : kidsS st t.af k with
  | none => rfl
  | some l => exact Qb h
 unfold Ye;rcases (by omega : (dp = 1 ∧ lv = 1) ∨ (dp = 2 ∧ lv = 1) ∨ (dp = 2 ∧ lv = 2)) with ⟨rfl, rfl⟩ | ⟨rfl, rfl⟩ | ⟨rfl, rfl⟩
 ·split
  ·rw [if_pos rfl]; have hn : n ≤ 4 := hn; show _ ≤ 1; omega
  ·have hn : n ≤ 4 := hn; show _ ≤ 4; omega
 ·split
  ·rw [if_neg (by omega), h4]; have hn : n ≤ 16 := hn; omega
  ·have hn : n ≤ 16 := hn; show _ ≤ 4; omega
 ·split
  ·rw [if_pos rfl]; have hn : n ≤ 4 := hn; show _ ≤ 1; omega
  ·have hn : n ≤ 4 := hn; show _ ≤ 4; omega
theorem Zgx {st : Za} {t : Ze} {dp lv : Nat} (hr : t.af.ok = true) : ∀ p ∈ Ye st t dp lv, p.ok = true := by
 have h4 : ∀ p ∈ YI, p.ok = true := fun p hp => by
  simp only [YI, mem_cons, List.not_mem_nil, or_false, or_self] at hp;rw [hp]; rfl
 intro p hp;unfold Ye at hp
 split at hp
 ·split at hp
  ·rw [mem_singleton.1 hp]; exact hr
  ·cases h : kidsS st t.af (dp : Int) with
   | none => rw [h] at hp; exact h4 p hp
   | some l => rw [h] at hp; exact (QR (UK h).1).2.1 p hp
 ·exact h4 p hp
theorem Zbh {xs : List PtrD} {i : Nat} : (xs.drop i).headD PtrD.zero = xs.getD i PtrD.zero := by
 rw [List.headD_eq_head?_getD, List.head?_drop, getD_eq_getElem?_getD]
theorem Zdj.start {q : SQ} {P W0 sy : List PtrD} {lv m : Nat} (hok : q.d.ok = true) : Zdj q q P W0 lv m 0 (Xb (lv : Int) m P W0 q.d [] sy) [] sy sy.length :=
 ⟨Nat.zero_le _, rfl, J9.refl _, hok, by simp, fun p hp => (nomatch hp), rfl, by omega⟩
theorem Zdj.step {q1 q z : SQ} {P W0 nx sy : List PtrD} {lv m i b : Nat} {RL : Zdi} (h : Zdj q1 q P W0 lv m i RL nx sy b) (hi : i < m) {r : ZeP} (hr : r = Yg q.d ((P.drop (i * 4)).take 4) (lv : Int) (W0.getD i PtrD.zero)) (hz : z = { q with d := r.st }) (hok : r.ok = true)
  (hcl : ((P.drop (i * 4)).take 4).length = 4) (hco : ∀ p ∈ (P.drop (i * 4)).take 4, p.ok = true) (hlv : inB (lv : Int) 0 2 = true) (hw : (W0.getD i PtrD.zero).ok = true) : Zdj q1 z P W0 lv m (i + 1) RL (nx ++ [r.p]) (QU sy r.p (W0.getD i PtrD.zero)) b := by
 have hg := Zgv hcl hco hlv hw h.ok;rw [← hr] at hg;subst hz;refine ⟨hi, ?_, h.gr.trans hg.1, hg.1.ok h.ok, ?_, fun p hp => ?_, ?_, ?_⟩
 ·show SQ.mk .. = SQ.mk ..
  have := h.hd;rw [this]
 ·have ht := h.tot
  have e : m - i = (m - (i + 1)) + 1 := by omega
  rw [e, ZhE (s := r.st) (p := r.p) (by rw [Zbh, ← hr, ← hok]), List.drop_drop, List.drop_drop, Zbh] at ht;rw [show (i + 1) * 4 = i * 4 + 4 by omega]; exact ht
 ·rcases mem_append.1 hp with hp | hp
  ·exact h.oks p hp
  ·rw [mem_singleton.1 hp]; exact hg.2
 ·rw [length_append, h.len]; rfl
 ·have := h.syl
  unfold QU
  split
  ·rw [length_append, length_singleton]; omega
  ·omega
theorem Zdj.fail {q1 q : SQ} {P W0 nx sy : List PtrD} {lv m i b : Nat} {RL : Zdi} (h : Zdj q1 q P W0 lv m i RL nx sy b) (hi : i < m) {r : ZeP} (hr : r = Yg q.d ((P.drop (i * 4)).take 4) (lv : Int) (W0.getD i PtrD.zero)) (hok : r.ok = false) : r.st = q.d ∧ RL = ⟨q.d, nx, sy, false⟩ := by
 have hs : r.st = q.d := by
  rw [hr] at hok ⊢;unfold Yg at hok ⊢
  split at hok
  ·cases hok
  ·split at hok
   ·cases hok
   ·split at hok
    ·cases hok
    ·rw [if_neg (by assumption), if_neg (by assumption), if_neg (by assumption)]
 refine ⟨hs, ?_⟩;have ht := h.tot;have e : m - i = (m - (i + 1)) + 1 := by omega
 rw [e, ZjA (s := r.st) (p := r.p) (by rw [Zbh, ← hr, ← hok]), hs] at ht;exact ht.symm
theorem Zdj.done {q1 q : SQ} {P W0 nx sy : List PtrD} {lv m i b : Nat} {RL : Zdi} (h : Zdj q1 q P W0 lv m i RL nx sy b) (hi : ¬ i < m) : RL = ⟨q.d, nx, sy, true⟩ := by
 have ht := h.tot;rw [show m - i = 0 by omega] at ht;exact ht.symm
theorem Zem.next {q0 q z : SQ} {t : Ze} {dp : Nat} {R : Zdi} {lv : Nat} {ls sy P nx sy2 : List PtrD} (h : Zem q0 q t dp R lv ls sy) (hd2 : dp ≤ 2) (hl : lv ≤ dp) (hP : P = XJ ls) {m i : Nat} (hm : m = P.length / 4) (hb : Zdj q z P (Ye q.d t dp lv) lv m i (Xb (lv : Int) m P (Ye q.d t dp lv) q.d [] sy) nx sy2 sy.length) (hi : ¬ i < m) : Zem q0 z t dp R (lv + 1) nx sy2 := by
 subst hP hm;have hd := hb.done hi;have ht := h.tot;have e : dp + 1 - lv = (dp + 1 - (lv + 1)) + 1 := by omega
 rw [e, Zmr hd] at ht;have hl2 := h.len;have hpl := V6 ls;have hnl := hb.len;have him := hb.im;refine ⟨by omega, by omega, ?_, h.gr.trans hb.gr, hb.ok, ht, hb.oks, ?_, ?_⟩
 ·have h1 := hb.hd; have h2 := h.hd
  show z = SQ.mk ..;rw [h1]; show SQ.mk .. = SQ.mk ..;rw [h2]
 ·rw [e, Nat.pow_succ] at hl2
  omega
 ·have := hb.syl; have := h.syl; have := h.lv1
  have : i ≤ 4 := by
   have h16 := ZjD (dp := dp) hd2 h.lv1;rw [e, Nat.pow_succ] at h16;rw [e, Nat.pow_succ] at hl2
   omega
  omega
theorem Zem.stop {q0 q z : SQ} {t : Ze} {dp : Nat} {R : Zdi} {lv : Nat} {ls sy P nx sy2 : List PtrD} (h : Zem q0 q t dp R lv ls sy) (hl : lv ≤ dp) (hP : P = XJ ls) {m : Nat} (hm : m = P.length / 4) (hb : Xb (lv : Int) m P (Ye q.d t dp lv) q.d [] sy = ⟨z.d, nx, sy2, false⟩) : R = ⟨z.d, nx, sy2, false⟩ := by
 subst hP hm;have ht := h.tot;have e : dp + 1 - lv = (dp + 1 - (lv + 1)) + 1 := by omega
 rw [e, ZnE hb] at ht;exact ht.symm
theorem Zem.done {q0 q : SQ} {t : Ze} {dp : Nat} {R : Zdi} {lv : Nat} {ls sy : List PtrD} (h : Zem q0 q t dp R lv ls sy) (hl : ¬ lv ≤ dp) : R = ⟨q.d, ls, sy, true⟩ := by
 have ht := h.tot;rw [show dp + 1 - lv = 0 by have := h.lvd; omega] at ht;exact ht.symm
theorem Zbi {st : Za} {t : Ze} (hr : t.af.ok = true) : (ZH st t).length ≤ 5 ∧ ∀ p ∈ ZH st t, p.ok = true := by
 unfold ZH
 split
 ·exact ⟨by simp, fun p hp => nomatch hp⟩
 ·split
  ·cases h : kidsS st t.af 2 with
   | none => exact ⟨by simp, fun p hp => by simp at hp; rw [hp]; exact hr⟩
   | some l =>
    have hl := Qb h;have h9 := List.length_filter_le (fun p : PtrD => !p.hole) l;refine ⟨by show (l.filter _).length + 1 ≤ 5; omega, fun p hp => ?_⟩;rcases mem_cons.1 hp with rfl | hp
    ·exact hr
    ·exact (QR (UK h).1).2.1 p (List.mem_filter.1 hp).1
  ·exact ⟨by simp, fun p hp => by simp at hp; rw [hp]; exact hr⟩
theorem Zen {sy : List PtrD} {x : PtrD} {k : Nat} (hk : k < sy.length) : Jh (sy.take (k + 1)) x = (Jh (sy.take k) x || (sy.getD k PtrD.zero).eqv x) := by
 unfold Jh;exact U2 hk _
theorem Zeo {sy inn : List PtrD} {i : Nat} {s : Za} (hi : i < inn.length) : Vy sy (inn.drop i) s = Vy sy (inn.drop (i + 1)) (if Jh sy (inn.getD i PtrD.zero) = true then s else s.free (inn.getD i PtrD.zero)) := by
 rw [UM hi]; rfl
theorem Zb7 (w0 w : World) (q0 : SQ) (t : Ze) (aoL : Option Addr) (cpL : Nat) (lvs : List PtrD) (many dp : Nat) (F : List Asr) (hdp : depthN (many : Int) = dp) (hl16 : lvs.length = 16) (hlo : ∀ p ∈ lvs, p.ok = true) (hmany : many ≤ 16) (hq : q0.d.ok = true) (hroot : t.af.ok = true) (hkid : t.aw = 2 → t.af.hole = false → kidsS q0.d t.af 2 ≠ none) (hS : St w0 (q0.asr :: Zg PtrD.cells 5 24 (.slice aoL lvs.length cpL) lvs :: F) w) : Calls prog 150 #[q0.u, tV t, .slice aoL lvs.length cpL, .int .i64 (many : Int)] w fun e w' => ∃ (q' : SQ) (r : UY), r = XN q0.d t lvs many ∧ q'.d = r.st ∧ (r.ok = false → q' = { q0 with d := r.st } ∧ J9 q0.d r.st) ∧ (r.ok = true → Vo 5 q'.d) ∧ e = .returned (.tuple #[q'.u, tV r.t, .bool r.ok]) ∧ St w0 (q'.asr :: Zg PtrD.cells 5 24 (.slice aoL lvs.length cpL) lvs :: F) w' := by
 have hrow0 := Xk hq;have htk : (lvs.take many).length = many := by rw [length_take]; omega
 have hdp2 : dp ≤ 2 := hdp ▸ YR _;have hdf := ZaZ (many := (many : Int)) (by omega); rw [hdp] at hdf;have E := Bx.mk hS; clear hS;refine ent func150 ntmps150 ?_;refine xsr ?_;refine ybx E ?_;clear E;intro w1 b1 E;refine ybx E ?_;clear E;intro w2 b2 E;refine yal z8 E ?_;clear E;intro w3 b3 E;refine yal z7 E ?_;clear E;intro w4 b4 E;refine xr 1 rfl<|xne<|xsr<|xr 1 rfl ?_;refine ycB (hdp ▸ VZ (many : Int) _) func23 E ?_;clear E;intro w5 E;refine xr 1 rfl<|xne<|xsr<|Xw 3 8 E rfl rfl<|Xw 2 7 E rfl rfl ?_;refine yc (ZhG q0.a0 q0.c0 q0.a1 q0.c1 q0.a2 q0.c2 q0.a4 q0.c4 q0.a6 q0.c6 q0.d t hkid _ (E.o.sqRd 4 rfl) hrow0) func181 ?_;rintro _ w6 ⟨ao5, cp5, rfl, hs⟩;refine ⟨_, rfl, ?_⟩;replace E := E.ad hs;clear hs;refine xr 1 rfl<|xne<|xsr ?_;refine yem 24 5 E ?_;clear E;intro w7 b6 E;refine xr 2 rfl<|xy rfl (fun a J=>JM (e := 24) (size := 5) (k := many) rfl (J.ev rfl) (J.ev rfl) (by kernel_rfl) (by omega) (Nat.le_trans (by omega) (St.capLe E.o 6 rfl))) ?_;replace E := Bx.mk (E.o.nilRow PtrD.cells 5 24 (some ⟨b6, 0, none⟩));intro a J;refine XE rfl J rfl rfl rfl (J.ev rfl) (J.ev rfl) Xu PtrD.cells_len E.o 0 (xs := []) rfl (ys := lvs.take many) (Rd.take (St.rdOf E.o PtrD.cells_len 7 rfl) (k := many) (by omega)) (Zz _) (by unfold maxLen; (try simp only [length_append, length_cons, length_nil, nil_append, length_map]); omega) (by (try simp only [length_append, length_cons, length_nil, nil_append, length_map]); omega) ?_; clear J E a; intro ao8 cp9 w8 a J E; replace E := Bx.mk E;revert a;refine xr 1 rfl<|xne<|xsr ?_;refine yem 24 5 E ?_;clear E;intro w9 b10 E;refine xr 1 rfl<|xne<|xsq<|xsr<|xr 1 rfl<|xne<|xbl ?_;have hz11 : ([] : List PtrD).length + (lvs.take many).length = (([]) ++ (lvs.take many)).length := by simp only [length_append, length_nil, length_cons]
 intro a J;rw [hz11] at E J;replace E := Bx.mk (E.o.nilRow PtrD.cells 5 24 (some ⟨b10, 0, none⟩));replace E:=E.pks [6,1,2,7];refine Zt (ι := Nat) (fun lv a w => ∃ (q1 : SQ) (ao : Option Addr) (cp : Nat) (ls : List PtrD) (aS : Option Addr) (cs : Nat) (sy : List PtrD), (Zem q0 q1 t dp (XQ t dp dp 1 q0.d (lvs.take many) []) lv ls sy) ∧ Fr 145 a [(2, .slice aoL lvs.length cpL), (3, .int .i64 (many : Int)), (4, .pointer (some ⟨b1, 0, none⟩)), (5, .pointer (some ⟨b2, 0, none⟩)), (8, .pointer (some ⟨b3, 0, none⟩)), (9, .pointer (some ⟨b4, 0, none⟩)), (10, .bool false), (11, .int .i64 (dp : Int)), (12, .slice ao5 ((ZH q0.d t).length) cp5), (13, .slice ao ls.length cp), (14, .slice aS sy.length cs), (15, .int .i64 (lv : Int))] ∧ St w0 (SQ.asr q1 :: Zg PtrD.cells 5 24 (.slice ao ls.length cp) ls :: Zg PtrD.cells 5 24 (.slice aS sy.length cs) sy :: boxA b1 8 44 (q1.u) :: Zg PtrD.cells 5 24 (.slice ao5 ((ZH q0.d t).length) cp5) (ZH q0.d t) :: boxA b4 7 26 (az7) :: boxA b3 8 44 (az8) :: boxA b2 7 26 (tV t) :: Zg PtrD.cells 5 24 (.slice aoL lvs.length cpL) lvs :: F) w) (fun lv => dp + 1 - lv) 1 ⟨q0, _, _, _, _, _, [], Zem.start hq (fun p hp => hlo p (List.mem_of_mem_take hp)) (by rw [length_take]; omega), J.less _ ⟨rfl, rfl, rfl, rfl, rfl, rfl, rfl, rfl, rfl, rfl, rfl, rfl, trivial⟩, E.o⟩ ?_;clear J E; clear a;rintro lv a w10 ⟨q1, ao, cp, ls, aS, cs, sy, hA, J, E⟩;replace E := Bx.mk E;have h416 : 4 ^ (dp + 1 - lv) ≤ 16 := ZjD hdp2 hA.lv1; have hlsl := hA.len; have hsyl := hA.syl; have hlv1 := hA.lv1; have hlvd := hA.lvd;revert a;refine xsq<|xsr<|xr 3 rfl<|xne<|xcd 39 rfl (fun _ dcc1=>?_) fun _ dcc1=>?_
 refine xct rfl<|xsk<|xet<|xsq<|xbl<|xsr<|Xw 3 8 E rfl rfl<|Xw 7 7 E rfl rfl<|xr 2 rfl ?_;refine yc (Zkz q1.a0 q1.c0 q1.a1 q1.c1 q1.a2 q1.c2 q1.a4 q1.c4 q1.a6 q1.c6 q1.d t dp lv _ (E.o.sqRd 0 rfl) (Xk hA.ok)) func182 ?_;rintro _ w11 ⟨ao12, cp12, rfl, hs⟩;refine ⟨_, rfl, ?_⟩;replace E := E.ad hs;clear hs;refine xr 1 rfl<|xne<|xsr ?_;refine yem 24 5 E ?_;clear E;intro w12 b13 E;refine xr 1 rfl<|xne<|xsq<|xbl ?_;replace E:=E.pks [2];intro a J;refine Zt (ι := Nat) (fun j a w => ∃ (ap : Option Addr) (cpP : Nat) (P : List PtrD), (P = ls ++ replicate j PtrD.zero ∧ j ≤ (4 - ls.length % 4) % 4) ∧ Fr 145 a [(2, .slice aoL lvs.length cpL), (3, .int .i64 (many : Int)), (4, .pointer (some ⟨b1, 0, none⟩)), (5, .pointer (some ⟨b2, 0, none⟩)), (8, .pointer (some ⟨b3, 0, none⟩)), (9, .pointer (some ⟨b4, 0, none⟩)), (10, .bool false), (11, .int .i64 (dp : Int)), (12, .slice ao5 ((ZH q0.d t).length) cp5), (14, .slice aS sy.length cs), (15, .int .i64 (lv : Int)), (16, .slice ao12 ((Ye q1.d t dp lv).length) cp12), (17, .slice (some ⟨b13, 0, none⟩) 0 0), (13, .slice ap P.length cpP)] ∧ St w0 (Zg PtrD.cells 5 24 (.slice ap P.length cpP) P :: Zg PtrD.cells 5 24 (.slice ao12 ((Ye q1.d t dp lv).length) cp12) (Ye q1.d t dp lv) :: SQ.asr q1 :: Zg PtrD.cells 5 24 (.slice aS sy.length cs) sy :: boxA b1 8 44 (q1.u) :: Zg PtrD.cells 5 24 (.slice ao5 ((ZH q0.d t).length) cp5) (ZH q0.d t) :: boxA b4 7 26 (az7) :: boxA b3 8 44 (az8) :: boxA b2 7 26 (tV t) :: Zg PtrD.cells 5 24 (.slice aoL lvs.length cpL) lvs :: F) w) (fun j => (4 - ls.length % 4) % 4 - j) 0 ⟨_, _, _, ⟨(by simp), Nat.zero_le _⟩, J.less _ ⟨rfl, rfl, rfl, rfl, rfl, rfl, rfl, rfl, rfl, rfl, rfl, rfl, rfl, rfl, trivial⟩, E.o⟩ ?_;clear J E; clear a;rintro j a w13 ⟨ap, cpP, P, ⟨hPj, hj⟩, J, E⟩;replace E := Bx.mk E;have hPl : P.length = ls.length + j := by rw [hPj, length_append, List.length_replicate]
 revert a;refine xsq<|xsr<|xr 1 rfl<|xy rfl (vn 24 5 rfl)<|xy rfl (fun a J=>QI rfl (J.ev rfl) (J.ev rfl) (by omega) (QL (by omega) (by omega)))<|xr 1 rfl<|xne<|xcn 51 rfl (fun _ dcc2=>?_) fun _ dcc2=>?_
 refine xct rfl<|xsk<|xet<|xbl<|xrl<|xr 1 rfl<|xy rfl (vb z5 rfl) ?_;refine ybs PtrD.cells 24 5 [PtrD.zero] E ?_;clear E;intro b14 w14 E;refine yap Xu PtrD.cells_len E 1 (St.rdN E.o PtrD.cells_len 0 rfl) (Zz _) ?_;clear E;intro ao15 cp16 w15 E;refine xr 1 rfl<|xni<|xeb<|xet ?_;have hz17 : P.length + ([PtrD.zero]).length = (P ++ ([PtrD.zero])).length := by simp only [length_append, length_nil, length_cons]
 intro a J;rw [hz17] at E J;replace E:=E.pks [10,10,10,10,10,10,10,10,10,10];exact ⟨j + 1, ⟨_, _, _, ⟨by rw [hPj, List.append_assoc, Zmw], by omega⟩, J.less _ ⟨rfl, rfl, rfl, rfl, rfl, rfl, rfl, rfl, rfl, rfl, rfl, rfl, rfl, rfl, trivial⟩, (E.o.erase 10)⟩, (by omega)⟩;refine xcf rfl<|xex<|xtx<|xtx<|xbh<|xet<|xsq<|xsr<|xr 1 rfl<|xne<|xbl ?_;replace E := Bx.mk (E.o.nilRow PtrD.cells 5 24 (some ⟨b13, 0, none⟩));replace E:=E.pks [5,5,2,5];have hP : P = XJ ls := by rw [hPj]; unfold XJ; congr 2; omega
 have hP4 := V6 ls; rw [← hP] at hP4;have hwl := Zmx (st := q1.d) (t := t) hA.lv1 (by omega) hdp2 hA.len;intro a J;refine Zt (ι := Nat) (fun i a w => ∃ (q2 : SQ) (an : Option Addr) (cn : Nat) (nx : List PtrD) (a5 : Option Addr) (c5 : Nat) (sy2 : List PtrD), (Zdj q1 q2 P (Ye q1.d t dp lv) lv (P.length / 4) i (Xb (lv : Int) (P.length / 4) P (Ye q1.d t dp lv) q1.d [] sy) nx sy2 sy.length) ∧ Fr 145 a [(2, .slice aoL lvs.length cpL), (3, .int .i64 (many : Int)), (4, .pointer (some ⟨b1, 0, none⟩)), (5, .pointer (some ⟨b2, 0, none⟩)), (8, .pointer (some ⟨b3, 0, none⟩)), (9, .pointer (some ⟨b4, 0, none⟩)), (10, .bool false), (11, .int .i64 (dp : Int)), (12, .slice ao5 ((ZH q0.d t).length) cp5), (13, .slice ap P.length cpP), (15, .int .i64 (lv : Int)), (16, .slice ao12 ((Ye q1.d t dp lv).length) cp12), (14, .slice a5 sy2.length c5), (17, .slice an nx.length cn), (18, .int .i64 (i : Int))] ∧ St w0 (SQ.asr q2 :: Zg PtrD.cells 5 24 (.slice an nx.length cn) nx :: Zg PtrD.cells 5 24 (.slice a5 sy2.length c5) sy2 :: boxA b1 8 44 (q2.u) :: Zg PtrD.cells 5 24 (.slice ap P.length cpP) P :: Zg PtrD.cells 5 24 (.slice ao12 ((Ye q1.d t dp lv).length) cp12) (Ye q1.d t dp lv) :: Zg PtrD.cells 5 24 (.slice ao5 ((ZH q0.d t).length) cp5) (ZH q0.d t) :: boxA b4 7 26 (az7) :: boxA b3 8 44 (az8) :: boxA b2 7 26 (tV t) :: Zg PtrD.cells 5 24 (.slice aoL lvs.length cpL) lvs :: F) w) (fun i => P.length / 4 - i) 0 ⟨q1, _, _, [], _, _, _, Zdj.start hA.ok, J.ls _, E.o⟩ ?_;clear J E; clear a;rintro i a w16 ⟨q2, an, cn, nx, a5, c5, sy2, hB, J, E⟩;replace E := Bx.mk E;have hnxl := hB.len; have hsy2 := hB.syl; have him := hB.im;revert a;refine xsq<|xsr<|xr 1 rfl<|xy rfl (fun a J=>Y6 rfl (J.ev rfl) (J.ev rfl) (Yh (by omega)))<|xr 1 rfl<|xy rfl (vn 24 5 rfl)<|xr 1 rfl<|xne<|xcd 60 rfl (fun _ dcc3=>?_) fun _ dcc3=>?_
 have hcl : ((P.drop (i * 4)).take 4).length = 4 := by rw [length_take, List.length_drop]; omega
 have hco : ∀ p ∈ (P.drop (i * 4)).take 4, p.ok = true := fun p hp => ZnD hA.oks p (hP ▸ List.mem_of_mem_drop (List.mem_of_mem_take hp))
 have hlv2 : inB (lv : Int) 0 2 = true := XT (by omega) (by omega);obtain ⟨g18, rfl, _, _, _, _⟩ := E.o.rowOpen 4 rfl (by omega);obtain ⟨g19, rfl, _, _, _, _⟩ := E.o.rowOpen 5 rfl (by omega);have hcap := E.o.capLe 4 rfl;replace E:=E.pks [10,10,10,10,10,10,9,9,9,10,10];refine xct rfl<|xsk<|xet<|xsq<|xbl<|xsq ?_;intro a J;refine ZW (R := fun a w => ∃ (b20 : Nat) (b21 : Nat) (zr1 : ZeP) (zq1 : SQ), zr1 = Yg q2.d ((P.drop (i * 4)).take 4) (lv : Int) ((Ye q1.d t dp lv).getD i PtrD.zero) ∧ zq1 = { q2 with d := zr1.st } ∧ Fr 145 a [(2, .slice aoL lvs.length cpL), (3, .int .i64 (many : Int)), (4, .pointer (some ⟨b1, 0, none⟩)), (5, .pointer (some ⟨b2, 0, none⟩)), (8, .pointer (some ⟨b3, 0, none⟩)), (9, .pointer (some ⟨b4, 0, none⟩)), (10, .bool false), (11, .int .i64 (dp : Int)), (12, .slice ao5 ((ZH q0.d t).length) cp5), (13, .slice (some ⟨g18, 0, none⟩) P.length cpP), (15, .int .i64 (lv : Int)), (16, .slice (some ⟨g19, 0, none⟩) ((Ye q1.d t dp lv).length) cp12), (14, .slice a5 sy2.length c5), (17, .slice an nx.length cn), (18, .int .i64 (i : Int)), (56, .int .i64 (i : Int)), (57, .int .i64 ((i : Int) * 4)), (58, .slice (some ⟨g18, 0, none⟩) P.length cpP), (59, .int .i64 (P.length : Int)), (60, .bool true), (19, .pointer (some ⟨b20, 0, none⟩)), (20, .pointer (some ⟨b21, 0, none⟩)), (21, .bool zr1.ok)] ∧ St w0 (boxA b21 5 24 (pV zr1.p) :: boxA b20 8 44 (zq1.u) :: SQ.asr zq1 :: Zg PtrD.cells 5 24 (.slice (some ⟨g18, 0, none⟩) P.length cpP) P :: Zg PtrD.cells 5 24 (.slice an nx.length cn) nx :: Zg PtrD.cells 5 24 (.slice a5 sy2.length c5) sy2 :: boxA b1 8 44 (q2.u) :: Zg PtrD.cells 5 24 (.slice (some ⟨g19, 0, none⟩) ((Ye q1.d t dp lv).length) cp12) (Ye q1.d t dp lv) :: Zg PtrD.cells 5 24 (.slice ao5 ((ZH q0.d t).length) cp5) (ZH q0.d t) :: boxA b4 7 26 (az7) :: boxA b3 8 44 (az8) :: boxA b2 7 26 (tV t) :: Zg PtrD.cells 5 24 (.slice aoL lvs.length cpL) lvs :: F) w) ?_ ?_;revert a;refine hld [0] E ?_;clear E;intro w17 E M;refine Hw 0 3 8 E rfl rfl<|Hp 1 E rfl<|Hp 2 E rfl<|xhy 3 E.o rfl rfl (fun E a J=>Y6 rfl (J.ev rfl) (J.ev rfl) (Yh (by omega)))<|Hp 4 E rfl<|xhy 5 E.o rfl rfl (fun E=>vad rfl)<|xhy 6 E.o rfl rfl (fun E a J=>Y6 rfl (J.ev rfl) (J.ev rfl) (Yh (by omega)))<|xhy 7 E.o rfl rfl (fun E a J=>ZhI (e := 24) (size := 5) (k := i * 4) (j := 4) rfl (J.ev rfl) (J.ev rfl) (J.ev rfl) (by kernel_rfl) (by omega) (by omega) (by omega) (by omega))<|Hp 8 E rfl<|Hp 9 E rfl<|Hp 10 E rfl<|xhy 11 E.o rfl rfl (fun E=>vx 24 i 5 rfl)<|xhy 12 E.o rfl rfl (fun E a J=>ylr (cs := pL ((Ye q1.d t dp lv).getD i PtrD.zero)) rfl (J.ev rfl) (E.elem PtrD.cells_len 4 rfl (Zi (xs := (Ye q1.d t dp lv)) (j := i) (d := PtrD.zero) (by omega)))) ?_
 repeat' (first | (refine yo (i := 13) (Zmu w0 _ q2 g18 cpP (i * 4) (cpP - i * 4) P _ (lv : Int) ((Ye q1.d t dp lv).getD i PtrD.zero) _ (by omega) rfl hcl hco (Zgx hroot _ (YK (by omega))) hlv2 hB.ok ((M.lk (Zg PtrD.cells 5 24 (.slice (some ⟨g18, 0, none⟩) P.length cpP) P)).lk (SQ.asr q2)).out) func183 ?_;rintro _ w19 ⟨zq1, zr1, hr1, hq1, rfl, hs1⟩;refine ⟨_, rfl, ?_⟩; replace M := Bx.mk hs1;clear hs1;replace M:=M.nm;replace E:=E.upd M;refine onb E.o ?_) | (refine yoa (i := 18) z8 E M ?_;clear E M;intro w20 b20 E M) | (refine yoa (i := 19) z5 E M ?_;clear E M;intro w21 b21 E M) | (refine YS (i := 20) M ?_;clear E M;intro w22 E M) | (refine YS (i := 21) M ?_;clear E M;intro w23 E M) | refine rdy 14<|Hp 14 E rfl ?_ | refine rdy 15<|Hp 15 E rfl ?_ | refine rdy 16<|Hp 16 E rfl ?_ | refine rdy 17<|Hp 17 E rfl ?_ | refine rdy 22<|Hp 22 E rfl ?_ | refine VI 13 18 19 ?_ ?_ ?_ | refine YV 13 18 ?_ ?_ | refine Z0 13 ?_ | refine Z0 20 ?_ | refine Z0 21 ?_ | refine Z0 18 ?_ | refine YV 13 19 ?_ ?_ | refine Z0 19 ?_ | refine YV 18 19 ?_ ?_ | (refine gdn ?_;intro a J;exact ZD ⟨b20, b21, zr1, zq1, hr1, hq1, J.ls _, M.o.pmA⟩))
 clear J E a; rintro a w17 ⟨b20, b21, zr1, zq1, hr1, hq1, J, E⟩; replace E := Bx.mk E;revert a;refine xet<|xsq<|xsr<|xr 2 rfl<|xne<|xcs 82 rfl (fun cc4=>?_) fun cc4=>?_
 refine xct rfl<|xsr<|Xw 6 8 E rfl rfl<|xy rfl (vb z7 rfl) ?_;refine yst E 10 ?_;clear E;intro w18 E;replace E:=E.nm;refine yst E 9 ?_;clear E;intro w19 E;replace E:=E.nm;refine xr 1 rfl<|xne<|xre<|xtr<|xbr<|xtr<|xtr<|xbr<|xtr<|xbr<|xtr<|xtr<|xbr<|xtr ?_;intro a J;refine Zx J results150 (J.resBox rfl (E.o.box 10 rfl) (by kernel_rfl)) (J.resBox rfl (E.o.box 9 rfl) (by kernel_rfl)) (J.res rfl) ?_;obtain ⟨hf1, hf2⟩ := hB.fail (by omega) hr1 (by simpa using cc4);have hR := hA.stop (by omega) hP rfl hf2;have hz : zq1 = q2 := by rw [hq1, hf1]
 subst hz;have hT : XN q0.d t lvs many = ⟨zq1.d, tree0, false⟩ := ZjB (by rw [hdp]; exact hR);replace E:=E.pks [12,3];refine ⟨zq1, _, hT.symm, rfl, fun _ => ⟨?_, hA.gr.trans hB.gr⟩, fun h => (nomatch h), rfl, (E.o.erS [12,11,10,9,8,7,6,5,4,3,2])⟩;have h1 := hB.hd; have h2 := hA.hd; rw [h1]; show SQ.mk .. = SQ.mk ..; rw [h2];refine xcf rfl<|xsk<|xet<|xsr<|Xw 1 8 E rfl rfl ?_;refine yst E 6 ?_;clear E;intro w20 E;replace E:=E.nm;refine xne<|xsq<|xsq ?_;intro a J;refine Yn (by kernel_rfl) (by kernel_rfl) E.o ?_;revert a;refine Qw 0 5 rfl rfl<|xqr 2 rfl<|xq rfl (fun E=>vx 24 i 5 rfl)<|xq rfl (fun E a J=>ylr (cs := pL ((Ye q1.d t dp lv).getD i PtrD.zero)) rfl (J.ev rfl) (E.elem PtrD.cells_len 7 rfl (Zi (xs := (Ye q1.d t dp lv)) (j := i) (d := PtrD.zero) (by omega))))<|xq rfl (fun E a J=>ZfJ zr1.p ((Ye q1.d t dp lv).getD i PtrD.zero) rfl (J.ev rfl) (J.ev rfl)) ?_;intro a J;refine wpQuiet_nil ?_; intro w21 E; replace E := Bx.mk E;revert a;refine xet<|xcs 91 rfl (fun cc5=>?_) fun cc5=>?_
 refine xct rfl<|xrl<|xr 1 rfl<|Xw 0 5 E rfl rfl ?_;refine ybs PtrD.cells 24 5 [zr1.p] E ?_;clear E;intro b60 w22 E;refine yap Xu PtrD.cells_len E 6 (St.rdN E.o PtrD.cells_len 0 rfl) (Zz _) ?_;clear E;intro ao61 cp62 w23 E;refine xr 1 rfl<|xne<|xrl<|xr 1 rfl<|Xw 1 5 E rfl rfl ?_;refine ybs PtrD.cells 24 5 [zr1.p] E ?_;clear E;intro b63 w24 E;refine yap Xu PtrD.cells_len E 6 (St.rdN E.o PtrD.cells_len 0 rfl) (Zz _) ?_;clear E;intro ao64 cp65 w25 E;refine xr 1 rfl<|xni<|xeb<|xet<|xrl<|xr 1 rfl<|xy rfl (vad rfl)<|xr 1 rfl<|xne ?_;have hz66 : nx.length + ([zr1.p]).length = (nx ++ ([zr1.p])).length := by simp only [length_append, length_nil, length_cons]
 intro a J;rw [hz66] at E J;have hz67 : sy2.length + ([zr1.p]).length = (sy2 ++ ([zr1.p])).length := by simp only [length_append, length_nil, length_cons]
 rw [hz67] at E J;have hB2 := hB.step (by omega) hr1 hq1 (by simpa using cc4) hcl hco hlv2 (Zgx hroot _ (YK (by omega)));rw [show QU sy2 zr1.p ((Ye q1.d t dp lv).getD i PtrD.zero) = sy2 ++ [zr1.p] from if_pos (by rw [cc5])] at hB2;replace E:=E.pks [14,14,14,14,14,14,11,14,14,14,14];exact ⟨i + 1, ⟨_, _, _, _, _, _, _, hB2, J.ls _, (E.o.erS [14,13,12,11])⟩, (by omega)⟩;refine xcf rfl<|xsk<|xet<|xrl<|xr 1 rfl<|Xw 0 5 E rfl rfl ?_;refine ybs PtrD.cells 24 5 [zr1.p] E ?_;clear E;intro b68 w26 E;refine yap Xu PtrD.cells_len E 5 (St.rdN E.o PtrD.cells_len 0 rfl) (Zz _) ?_;clear E;intro ao69 cp70 w27 E;refine xr 1 rfl<|xni<|xeb<|xet<|xrl<|xr 1 rfl<|xy rfl (vad rfl)<|xr 1 rfl<|xne ?_;have hz71 : nx.length + ([zr1.p]).length = (nx ++ ([zr1.p])).length := by simp only [length_append, length_nil, length_cons]
 intro a J;rw [hz71] at E J;have hB2 := hB.step (by omega) hr1 hq1 (by simpa using cc4) hcl hco hlv2 (Zgx hroot _ (YK (by omega)));rw [show QU sy2 zr1.p ((Ye q1.d t dp lv).getD i PtrD.zero) = sy2 from if_neg (by rw [cc5]; exact Bool.false_ne_true)] at hB2;replace E:=E.pks [13,13,13,13,13,13,10,13,13,13,13];exact ⟨i + 1, ⟨_, _, _, _, _, _, _, hB2, J.ls _, (E.o.erS [13,12,11])⟩, (by omega)⟩;refine xcf rfl<|xex<|xtx<|xtx<|xbh<|xet<|xrl<|xr 2 rfl<|xni<|xeb<|xet<|xrl<|xr 1 rfl<|xy rfl (vad rfl)<|xr 1 rfl<|xne ?_;replace E:=E.pks [10,10,10,10,10,8,8,8,8];intro a J;exact ⟨lv + 1, ⟨_, _, _, _, _, _, _, hA.next hdp2 (by omega) hP rfl hB (by omega), J.less _ ⟨rfl, rfl, rfl, rfl, rfl, rfl, rfl, rfl, rfl, rfl, rfl, rfl, trivial⟩, (E.o.erS [10,9])⟩, (by omega)⟩;refine xcf rfl<|xex<|xtx<|xtx<|xbh<|xet<|xsq<|xsr<|xr 1 rfl<|xne<|xbl ?_;have hin5 := (Zbi (st := q0.d) hroot).1;replace E:=E.pks [3,1];intro a J;refine Zt (ι := Nat) (fun i a w => ∃ (q3 : SQ), (i ≤ (ZH q0.d t).length ∧ Vy sy ((ZH q0.d t).drop i) q3.d = Vy sy (ZH q0.d t) q1.d ∧ Vo i q3.d) ∧ Fr 145 a [(2, .slice aoL lvs.length cpL), (3, .int .i64 (many : Int)), (4, .pointer (some ⟨b1, 0, none⟩)), (5, .pointer (some ⟨b2, 0, none⟩)), (8, .pointer (some ⟨b3, 0, none⟩)), (9, .pointer (some ⟨b4, 0, none⟩)), (10, .bool false), (11, .int .i64 (dp : Int)), (12, .slice ao5 ((ZH q0.d t).length) cp5), (13, .slice ao ls.length cp), (14, .slice aS sy.length cs), (22, .int .i64 (i : Int))] ∧ St w0 (SQ.asr q3 :: boxA b1 8 44 (q3.u) :: Zg PtrD.cells 5 24 (.slice ao ls.length cp) ls :: Zg PtrD.cells 5 24 (.slice aS sy.length cs) sy :: Zg PtrD.cells 5 24 (.slice ao5 ((ZH q0.d t).length) cp5) (ZH q0.d t) :: boxA b4 7 26 (az7) :: boxA b3 8 44 (az8) :: boxA b2 7 26 (tV t) :: Zg PtrD.cells 5 24 (.slice aoL lvs.length cpL) lvs :: F) w) (fun i => (ZH q0.d t).length - i) 0 ⟨q1, ⟨Nat.zero_le _, by rw [List.drop_zero], Jw hA.ok⟩, J.less _ ⟨rfl, rfl, rfl, rfl, rfl, rfl, rfl, rfl, rfl, rfl, rfl, rfl, trivial⟩, E.o⟩ ?_;clear J E; clear a;rintro i a w28 ⟨q3, ⟨hi, hfr, hW⟩, J, E⟩;replace E := Bx.mk E;revert a;refine xsq<|xsr<|xr 2 rfl<|xy rfl (vn 24 5 rfl)<|xr 1 rfl<|xne<|xcd 104 rfl (fun _ dcc6=>?_) fun _ dcc6=>?_
 refine xct rfl<|xsk<|xet<|xsq<|xbl<|xsr<|xr 1 rfl<|xne<|xsq<|xsr<|xr 1 rfl<|xne<|xbl ?_;intro a J;refine Zt (ι := Nat) (fun k a w => (k ≤ sy.length) ∧ Fr 145 a [(2, .slice aoL lvs.length cpL), (3, .int .i64 (many : Int)), (4, .pointer (some ⟨b1, 0, none⟩)), (5, .pointer (some ⟨b2, 0, none⟩)), (8, .pointer (some ⟨b3, 0, none⟩)), (9, .pointer (some ⟨b4, 0, none⟩)), (10, .bool false), (11, .int .i64 (dp : Int)), (12, .slice ao5 ((ZH q0.d t).length) cp5), (13, .slice ao ls.length cp), (14, .slice aS sy.length cs), (22, .int .i64 (i : Int)), (23, .bool (Jh (sy.take k) ((ZH q0.d t).getD i PtrD.zero))), (24, .int .i64 (k : Int))] ∧ St w0 (SQ.asr q3 :: boxA b1 8 44 (q3.u) :: Zg PtrD.cells 5 24 (.slice ao ls.length cp) ls :: Zg PtrD.cells 5 24 (.slice aS sy.length cs) sy :: Zg PtrD.cells 5 24 (.slice ao5 ((ZH q0.d t).length) cp5) (ZH q0.d t) :: boxA b4 7 26 (az7) :: boxA b3 8 44 (az8) :: boxA b2 7 26 (tV t) :: Zg PtrD.cells 5 24 (.slice aoL lvs.length cpL) lvs :: F) w) (fun k => sy.length - k) 0 ⟨Nat.zero_le _, J.ls _, E.o⟩ ?_;clear J E; clear a;rintro k a w29 ⟨hk4, J, E⟩;replace E := Bx.mk E;revert a;refine xsq<|xsr<|xr 2 rfl<|xy rfl (vn 24 5 rfl)<|xr 1 rfl<|xne<|xcd 110 rfl (fun _ dcc7=>?_) fun _ dcc7=>?_
 refine xct rfl<|xsk<|xet<|xsq<|xbl ?_;obtain ⟨g72, rfl, _, _, _, _⟩ := E.o.rowOpen 3 rfl (by omega);obtain ⟨g73, rfl, _, _, _, _⟩ := E.o.rowOpen 4 rfl (by omega);intro a J;refine Yn (by kernel_rfl) (by kernel_rfl) E.o ?_;revert a;refine xqr 2 rfl<|xcs 114 rfl (fun cc8=>?_) fun cc8=>?_
 refine xqr 11 rfl ?_;intro a J;refine wpQuiet_nil ?_; intro w30 E; replace E := Bx.mk E;revert a;refine xeb<|xet<|xrl<|xr 1 rfl<|xy rfl (vad rfl)<|xr 1 rfl<|xne ?_;have hks := Zen (x := ((ZH q0.d t).getD i PtrD.zero)) (show k < sy.length by omega); rw [cc8] at hks; simp only [Bool.true_or] at hks;intro a J;exact ⟨k + 1, ⟨(by omega), J.less _ ⟨rfl, rfl, rfl, rfl, rfl, rfl, rfl, rfl, rfl, rfl, rfl, rfl, (congrArg (fun z => some (Value.bool z)) hks.symm), rfl, trivial⟩, E.o⟩, (by omega)⟩;refine xqr 2 rfl<|xq rfl (fun E=>vx 24 k 5 rfl)<|xq rfl (fun E a J=>ylr (cs := pL (sy.getD k PtrD.zero)) rfl (J.ev rfl) (E.elem PtrD.cells_len 3 rfl (Zi (xs := sy) (j := k) (d := PtrD.zero) (by omega))))<|xqr 2 rfl<|xq rfl (fun E=>vx 24 i 5 rfl)<|xq rfl (fun E a J=>ylr (cs := pL ((ZH q0.d t).getD i PtrD.zero)) rfl (J.ev rfl) (E.elem PtrD.cells_len 4 rfl (Zi (xs := (ZH q0.d t)) (j := i) (d := PtrD.zero) (by omega))))<|xq rfl (fun E a J=>ZfJ (sy.getD k PtrD.zero) ((ZH q0.d t).getD i PtrD.zero) rfl (J.ev rfl) (J.ev rfl))<|xqr 2 rfl ?_;intro a J;refine wpQuiet_nil ?_; intro w31 E; replace E := Bx.mk E;revert a;refine xeb<|xet<|xrl<|xr 1 rfl<|xy rfl (vad rfl)<|xr 1 rfl<|xne ?_;have hks := Zen (x := ((ZH q0.d t).getD i PtrD.zero)) (show k < sy.length by omega); rw [cc8] at hks; simp only [Bool.false_or] at hks;intro a J;exact ⟨k + 1, ⟨(by omega), J.less _ ⟨rfl, rfl, rfl, rfl, rfl, rfl, rfl, rfl, rfl, rfl, rfl, rfl, (congrArg (fun z => some (Value.bool z)) hks.symm), rfl, trivial⟩, E.o⟩, (by omega)⟩;refine xcf rfl<|xex<|xtx<|xtx<|xbh<|xet<|xsq ?_;intro a J;have hkt : sy.take k = sy := List.take_of_length_le (by omega); rw [hkt] at J;revert a;refine xrl<|xr 2 rfl<|xne<|xcs 126 rfl (fun cc9=>?_) fun cc9=>?_
 refine xct rfl ?_;obtain ⟨g74, rfl, _, _, _, _⟩ := E.o.rowOpen 4 rfl (by omega);refine hld [1,0] E ?_;clear E;intro w32 E M;refine Hp 1 E rfl<|Hp 2 E rfl<|xhy 3 E.o rfl rfl (fun E=>vx 24 i 5 rfl)<|xhy 4 E.o rfl rfl (fun E a J=>ylr (cs := pL ((ZH q0.d t).getD i PtrD.zero)) rfl (J.ev rfl) (E.elem PtrD.cells_len 2 rfl (Zi (xs := (ZH q0.d t)) (j := i) (d := PtrD.zero) (by omega)))) ?_;refine Zl 0 ?_;refine yoy E (fun a J=>ylr (cs := q3.l) rfl (J.ev rfl) ((M.o.box 1 rfl).sub 0 8)) ?_;refine Zl 5 ?_;intro a J;replace M:=M.pks [0];revert a;refine yo (JG w0 _ q3 ((ZH q0.d t).getD i PtrD.zero) i _ ((Zbi hroot).2 _ (YK (by omega))) hW (by omega) M.o) func151 ?_;rintro _ w35 ⟨zq3, hq3, rfl, hs1⟩;refine ⟨_, rfl, ?_⟩; replace M := Bx.mk hs1;clear hs1;intro a J;replace M:=M.nm;clear E;have E:=M.ers [1,0];refine ⟨E.o, ?_⟩;revert a;refine Zl 6 ?_;refine yos 1 [1,0] M ?_;clear E M;intro w36 E M;refine hdn ?_;replace E := M; clear M;refine xeb<|xet<|xrl<|xr 1 rfl<|xy rfl (vad rfl)<|xr 1 rfl<|xne ?_;have hk9 : Jh sy ((ZH q0.d t).getD i PtrD.zero) = false := by simpa using cc9
 have hst := Zeo (sy := sy) (s := q3.d) (show i < (ZH q0.d t).length by omega); rw [hk9] at hst;rw [if_neg Bool.false_ne_true, ← hq3] at hst;intro a J;exact ⟨i + 1, ⟨_, ⟨by omega, hst.symm.trans hfr, hq3 ▸ hW.free ((Zbi hroot).2 _ (YK (by omega)))⟩, J.less _ ⟨rfl, rfl, rfl, rfl, rfl, rfl, rfl, rfl, rfl, rfl, rfl, rfl, trivial⟩, E.o⟩, (by omega)⟩;refine xcf rfl<|xsk<|xeb<|xet<|xrl<|xr 1 rfl<|xy rfl (vad rfl)<|xr 1 rfl<|xne ?_;have hk9 : Jh sy ((ZH q0.d t).getD i PtrD.zero) = true := by simpa using cc9
 have hst := Zeo (sy := sy) (s := q3.d) (show i < (ZH q0.d t).length by omega); rw [hk9] at hst;intro a J;exact ⟨i + 1, ⟨_, ⟨by omega, hst.symm.trans hfr, hW.more (by omega)⟩, J.less _ ⟨rfl, rfl, rfl, rfl, rfl, rfl, rfl, rfl, rfl, rfl, rfl, rfl, trivial⟩, E.o⟩, (by omega)⟩;refine xcf rfl<|xex<|xtx<|xtx<|xbh<|xet<|xsr<|xy rfl (vb z5 rfl) ?_;refine yal z5 E ?_;clear E;intro w37 b75 E;refine yst E 0 ?_;clear E;intro w38 E;replace E:=E.nm;refine xne<|xsq<|xsr<|xr 1 rfl<|xy rfl (vn 24 5 rfl)<|xr 1 rfl<|xne<|xcd 136 rfl (fun _ dcc10=>?_) fun _ dcc10=>?_;refine xct rfl ?_;obtain ⟨g76, rfl, _, _, _, _⟩ := E.o.rowOpen 3 rfl (by omega);refine xrl<|xr 1 rfl<|xy rfl (vx 24 0 5 rfl)<|xy rfl (fun a J=>ylr (cs := pL (ls.getD 0 PtrD.zero)) rfl (J.ev rfl) (E.o.elem PtrD.cells_len 3 rfl (Zi (xs := ls) (j := 0) (d := PtrD.zero) (by omega)))) ?_;refine yst E 0 ?_;clear E;intro w39 E;replace E:=E.nm;refine xne<|xsq ?_;refine hld [7,6] E ?_;clear E;intro w40 E M;refine Hw 0 2 8 E rfl rfl<|Hw 1 0 5 E rfl rfl<|Hp 2 E rfl<|Hp 3 E rfl<|xhy 4 E.o rfl rfl (fun E=>vb [.int .i64 ((ls.getD 0 PtrD.zero).aC), .int .i64 ((ls.getD 0 PtrD.zero).al), .int .i64 ((ls.getD 0 PtrD.zero).am), .int .i64 ((ls.getD 0 PtrD.zero).aB), .int .i64 ((ls.getD 0 PtrD.zero).aq), .int .i64 (dp : Int), .int .i64 (many : Int)] rfl) ?_;refine Zl 5 ?_;refine yos 7 [7,6] M ?_;clear E M;intro w41 E M;refine Zl 6 ?_;refine yos 6 [7,6] M ?_;clear E M;intro w42 E M;refine Hp 7 E rfl ?_;refine hdn ?_;replace E := M; clear M;refine xet<|xre ?_;intro a J;refine Zx J results150 (J.resBox rfl (E.o.box 7 rfl) (by kernel_rfl)) (J.resBox rfl (E.o.box 6 rfl) (by kernel_rfl)) (J.res rfl) ?_;have hT : XN q0.d t lvs many = ⟨q3.d, ⟨ls.headD PtrD.zero, (dp : Nat), many⟩, true⟩ := by rw [Zei (by rw [hdp]; exact hA.done (by omega)), hdp]; rw [← hfr, List.drop_of_length_le (by omega)]; rfl
 replace E:=E.pks [9,2];have hh9 : ls.headD PtrD.zero = ls.getD 0 PtrD.zero := by cases ls <;> rfl
 exact ⟨q3, _, hT.symm, rfl, fun h => (nomatch h), fun _ => hW.more (by omega), by dsimp only [SQ.u]; rw [hh9] <;> rfl, (E.o.erS [9,8,7,6,5,4,3,2])⟩;refine xcf rfl<|xsk<|xet<|xsq ?_;refine hld [7,6] E ?_;clear E;intro w43 E M;refine Hw 0 2 8 E rfl rfl<|Hw 1 0 5 E rfl rfl<|Hp 2 E rfl<|Hp 3 E rfl<|xhy 4 E.o rfl rfl (fun E=>vb [.int .i64 0, .int .i64 0, .int .i64 0, .int .i64 0, .int .i64 0, .int .i64 (dp : Int), .int .i64 (many : Int)] rfl) ?_;refine Zl 5 ?_;refine yos 7 [7,6] M ?_;clear E M;intro w44 E M;refine Zl 6 ?_;refine yos 6 [7,6] M ?_;clear E M;intro w45 E M;refine Hp 7 E rfl ?_;refine hdn ?_;replace E := M; clear M;refine xet<|xre ?_;intro a J;refine Zx J results150 (J.resBox rfl (E.o.box 7 rfl) (by kernel_rfl)) (J.resBox rfl (E.o.box 6 rfl) (by kernel_rfl)) (J.res rfl) ?_;have hT : XN q0.d t lvs many = ⟨q3.d, ⟨ls.headD PtrD.zero, (dp : Nat), many⟩, true⟩ := by rw [Zei (by rw [hdp]; exact hA.done (by omega)), hdp]; rw [← hfr, List.drop_of_length_le (by omega)]; rfl
 replace E:=E.pks [9,2];have hh9 : ls.headD PtrD.zero = PtrD.zero := by rw [List.eq_nil_of_length_eq_zero (l := ls) (by omega)]; rfl
 exact ⟨q3, _, hT.symm, rfl, fun h => (nomatch h), fun _ => hW.more (by omega), by dsimp only [SQ.u]; rw [hh9] <;> rfl, (E.o.erS [9,8,7,6,5,4,3,2])⟩
theorem ZnG {P : Program} {o : Oper} {a : Act} {w : World} {x y : Operand} {tt : Array TypeId} {m n r : Int} (h : max m n = r) (ho : o.op = .call { callee := .builtin .max, args := #[x, y], argTypes := tt }) {k : IntKind} (hx : a.eval x = .int k m) (hy : a.eval y = .int k n) : Yl P w o a (.int k r) := h ▸ Zf0 ho hx hy
theorem Zmy {st : Za} {text : ByteArray} {level : Int} {i : Nat} (hok : st.ok = true) (hi : i < 64) (hw : writeAt st text level = i) {p : PtrD} (hp : p.ok = true) (hh : p.hole = false) (hr : XP st p = true) : Yt (st.putAt i (st.ac.set i text)) p = Yt st p := by
 obtain ⟨_, hrow⟩ := Zfn hok hi hw;have hO := Za.ok_spec hok;obtain ⟨j, h8, hj, e⟩ := Zba hp hh;rw [QQ hh, Up e] at hr;rw [Up e, Up e];show (st.ac.set i text).getD j _ = _;rw [X1 (by rw [hO.rows]; exact hi)]
 split
 ·rename_i ej
  subst ej;rcases hrow with ⟨h0, _⟩ | ⟨_, h1, _⟩
  ·have h2 := (Q4.1 hO.each i hi).2.1.2 h0
   unfold Qi at hr;simp only [Bool.and_eq_true, beq_iff_eq] at hr;unfold PtrD.ok at hp;rw [hh, Bool.false_or] at hp;simp only [Bool.and_eq_true] at hp;have h3 := Zs hp.1.1.2
   omega
  ·exact h1.symm
 ·rfl
theorem ZkG {st st' : Za} {p : PtrD} {n : Int} (ht : st'.av = st.av) (h : p.hole = false → Yt st' p = Yt st p) : kidsS st' p n = kidsS st p n := by unfold kidsS; rw [ZbU h, ht]
theorem ZiM {st : Za} {p : PtrD} {n : Int} {l : List PtrD} (hh : p.hole = false) (h : kidsS st p n = some l) : p.ok = true ∧ XP st p = true := by
 obtain ⟨hk, ho⟩ := UK h;rcases (QR hk).2.2 with ⟨e, _⟩ | ⟨_, _, hr, _⟩
 ·rw [hh] at e; cases e
 ·exact ⟨(ho hh).1, hr⟩
theorem ZkH {st : Za} {text : ByteArray} {level : Int} (hok : st.ok = true) {p : PtrD} {n : Int} (hh : p.hole = false) (h : kidsS st p n ≠ none) : kidsS (YE st text level).st p n ≠ none := by
 cases hk : kidsS st p n with
 | none => exact absurd hk h
 | some l =>
  obtain ⟨ho, hr⟩ := ZiM hh hk
  by_cases hi : writeAt st text level < 64
  ·rw [Ua hi rfl]
   rw [ZkG (st := st) (st' := st.putAt (writeAt st text level) (st.ac.set (writeAt st text level) text)) rfl fun _ => Zmy hok hi rfl ho hh hr, hk]; simp
  ·rw [UZ (by have := J8 st text level; omega)]; rw [hk]; simp
theorem TreeX.kid {st : Za} {t : Ze} {x l : List PtrD} (X : TreeX st t x l) : t.aw = 2 → t.af.hole = false → kidsS st t.af 2 ≠ none := fun hd _ e => by
 have h := X.dn;have h2 : depthN t.ai = 2 := by have := X.dep; omega
 rw [h2] at h;rw [JZ (VR e)] at h; cases h
theorem TreeX.root {st : Za} {t : Ze} {x l : List PtrD} (X : TreeX st t x l) : t.af.ok = true := by
 obtain ⟨x, ht, _⟩ := Za0 X.lv;unfold topB at ht;simp only [Bool.and_eq_true] at ht;exact ht.2.2.1
theorem ZiN {l : List PtrD} {k : Nat} {p : PtrD} (h : ∀ q ∈ l, q.ok = true) (hp : p.ok = true) : ∀ q ∈ l.set k p, q.ok = true := fun q hq => by
 rcases List.mem_or_eq_of_mem_set hq with hq | rfl
 ·exact h q hq
 ·exact hp
theorem Zaw {s : ByteArray} (h : (s.toList == ByteArray.empty.toList) = true) : s.size = 0 := by rw [Qd h]; rfl
theorem Ub {s : ByteArray} (h : (s.toList == ByteArray.empty.toList) = false) : s.size ≠ 0 := fun e => by
 have : s = ByteArray.empty := ByteArray.ext (Array.eq_empty_of_size_eq_zero e);rw [this] at h; simp at h
theorem V8 (w0 w : World) (q0 : SQ) (t : Ze) {x l : List PtrD} (X : TreeX q0.d t x l) (k : Nat) (hk : k < 16) (text : ByteArray) (htl : text.size ≤ 128) (F : List Asr) (hq : q0.d.ok = true) (hS : St w0 (q0.asr :: F) w) : Calls prog 112 #[q0.u, tV t, .int .i64 (k : Int), .string text] w fun e w' => ∃ (q' : SQ) (r : UY), r = XK q0.d t x k text ∧ q'.d = r.st ∧ (r.ok = false → q' = { q0 with d := r.st } ∧ J9 q0.d r.st) ∧ (r.ok = true → Vo 6 q'.d) ∧ e = .returned (.tuple #[q'.u, tV r.t, .bool r.ok]) ∧ St w0 (q'.asr :: F) w' := by
 have hrow0 := Xk hq; have hwl := UP X.x16; have hwo := ZbS X.xok; have hmm := X.many;obtain ⟨old, hold⟩ : ∃ o, (Zo x).getD k PtrD.zero = o := ⟨_, rfl⟩;have hgo : (Zo x)[k]? = some old := by rw [← hold]; exact Zi (by omega)
 have hoo : old.ok = true := hwo _ (hold ▸ YK (by omega));obtain ⟨many, hmx⟩ : ∃ m : Nat, max t.ai ((k : Int) + 1) = (m : Int) := ⟨(max t.ai ((k : Int) + 1)).toNat, by omega⟩;have hm16 : many ≤ 16 := by omega
 have E := Bx.mk hS; clear hS;refine ent func112 ntmps112 ?_;refine xsr ?_;refine ybx E ?_;clear E;intro w1 b1 E;refine ybx E ?_;clear E;intro w2 b2 E;refine yal z8 E ?_;clear E;intro w3 b3 E;refine yal z7 E ?_;clear E;intro w4 b4 E;refine xr 1 rfl<|xne<|xsr<|Xw 3 8 E rfl rfl<|Xw 2 7 E rfl rfl ?_;refine yc (Vi q0.a0 q0.c0 q0.a1 q0.c1 q0.a2 q0.c2 q0.a4 q0.c4 q0.a6 q0.c6 q0.d t X.dn X.dep X.x16 _ (E.o.sqRd 4 rfl) hrow0) func95 ?_;rintro _ w5 ⟨ao5, cp5, rfl, hs⟩;refine ⟨_, rfl, ?_⟩;replace E := E.ad hs;clear hs;refine xr 1 rfl<|xne<|xsq ?_;obtain ⟨g6, rfl, _, _, _, _⟩ := E.o.rowOpen 0 rfl (by omega);refine xrl<|xr 2 rfl<|xy rfl (vx 24 k 5 rfl)<|xy rfl (fun a J=>ylr (cs := pL old) rfl (J.ev rfl) (E.o.elem PtrD.cells_len 0 rfl hgo)) ?_;refine yal z5 E ?_;clear E;intro w6 b7 E;refine yst E 0 ?_;clear E;intro w7 E;replace E:=E.nm;refine xne<|xsr<|Xw 5 8 E rfl rfl<|Xw 0 5 E rfl rfl ?_;refine ycB (J2 q0.a0 q0.c0 q0.a1 q0.c1 q0.a2 q0.c2 q0.a4 q0.c4 q0.a6 q0.c6 q0.d old _ (E.o.sqRd 6 rfl) hrow0 hoo) func96 E ?_;clear E;intro w8 E;refine xr 5 rfl<|xne<|xsr<|Xf 6 rfl<|Xl 4 E rfl rfl<|xr 1 rfl<|xy rfl (vad rfl)<|xy rfl (fun a J=>ZnG hmx rfl (J.ev rfl) (J.ev rfl))<|xr 1 rfl<|xne<|xsq<|xsr<|xr 2 rfl<|xy rfl (fun a J=>Y7 rfl (J.ev rfl) (J.ev rfl))<|xr 1 rfl<|xcs 42 rfl (fun cc1=>?_) fun cc1=>?_;have htxcc1 : ((Zn q0.d old).toList == text.toList) = true := by simpa using cc1
 refine xr 1 rfl<|Xf 6 rfl<|Xl 4 E rfl rfl<|xr 2 rfl<|xne<|xce 47 rfl (fun _ dcc2=>?_) fun _ dcc2=>?_;refine xct rfl<|xsq ?_;refine hld [3,2] E ?_;clear E;intro w9 E M;refine Hw 0 3 8 E rfl rfl<|Hw 1 2 7 E rfl rfl ?_;refine Zl 2 ?_;refine yos 3 [3,2] M ?_;clear E M;intro w10 E M;refine Zl 3 ?_;refine yos 2 [3,2] M ?_;clear E M;intro w11 E M;refine Hp 4 E rfl ?_;refine hdn ?_;replace E := M; clear M;refine xet<|xre<|xtr ?_;intro a J;refine Zx J results112 (J.resBox rfl (E.o.box 3 rfl) (by kernel_rfl)) (J.resBox rfl (E.o.box 2 rfl) (by kernel_rfl)) (J.res rfl) ?_;replace E:=E.pks [6];have hT := Zej (k := k) hold htxcc1 (hmx.trans (by omega));exact ⟨q0, _, hT.symm, rfl, fun h => (nomatch h), fun _ => (Jw hq).more (by omega), rfl, (E.o.erS [6,5,4,3,2,1])⟩;refine xcf rfl<|xsk<|xet<|xsr<|Xw 0 5 E rfl rfl ?_;refine yal z5 E ?_;clear E;intro w12 b8 E;refine yst E 0 ?_;clear E;intro w13 E;replace E:=E.nm;refine xne<|xsq<|xsr<|xr 2 rfl<|xy rfl (fun a J=>Y8 rfl (J.ev rfl) (J.ev rfl))<|xne<|xcs 53 rfl (fun cc3=>?_) fun cc3=>?_;rw [htxcc1] at cc3; simp at cc3;have htxcc3 : ((Zn q0.d old).toList == text.toList) = true := by simpa using cc3
 refine xcf rfl<|xsk<|xet<|xsr<|xr 2 rfl<|Xw 0 5 E rfl rfl<|xy rfl (vx 24 k 5 rfl) ?_;intro a J;refine ZaP PtrD.cells_len rfl rfl rfl (J.ev rfl) (J.ev rfl) (by kernel_rfl) E.o 2 rfl (by omega) (z := old) rfl (by first | rfl | simp [Value.oneCell']) ?_; clear E; intro w14 E; replace E := Bx.mk E;revert a;refine xne<|xsr<|Xw 6 8 E rfl rfl<|Xw 5 7 E rfl rfl<|xr 2 rfl ?_;have hsl : ((Zo x).set k old).length = 16 := by rw [length_set]; exact hwl
 have hzl : (Zo x).length = ((Zo x).set k old).length := (length_set ..).symm;intro a J;rw [hzl] at E J;replace E:=E.nm;replace E:=E.pks [2,7];revert a;refine yc (Zb7 w0 _ q0 t _ _ ((Zo x).set k old) many (depthN (many : Int)) _ rfl hsl (ZiN hwo hoo) (by omega) hq X.root X.kid E.o) func150 ?_;rintro _ w15 ⟨zq2, zr2, hr2, hq2, hf2, hW2, rfl, hs1⟩;refine ⟨_, rfl, ?_⟩; replace E := Bx.mk hs1;clear hs1;refine xr 4 rfl ?_;refine yst E 7 ?_;clear E;intro w16 E;replace E:=E.nm;refine yst E 6 ?_;clear E;intro w17 E;replace E:=E.nm;refine xr 1 rfl<|xne<|xsq<|xsr<|xr 2 rfl<|xne<|xcs 84 rfl (fun cc4=>?_) fun cc4=>?_;have hok2 : zr2.ok = false := by simpa using cc4
 refine xct rfl<|xsq ?_;refine hld [5,4] E ?_;clear E;intro w18 E M;refine Hw 0 5 8 E rfl rfl<|Hw 1 4 7 E rfl rfl ?_;refine Zl 2 ?_;refine yos 5 [5,4] M ?_;clear E M;intro w19 E M;refine Zl 3 ?_;refine yos 4 [5,4] M ?_;clear E M;intro w20 E M;refine Hp 4 E rfl ?_;refine hdn ?_;replace E := M; clear M;refine xet<|xre<|xtr ?_;intro a J;refine Zx J results112 (J.resBox rfl (E.o.box 5 rfl) (by kernel_rfl)) (J.resBox rfl (E.o.box 4 rfl) (by kernel_rfl)) (J.res rfl) ?_;replace E:=E.pks [0];have hne : ¬ (((Zn q0.d old).toList == text.toList) = true ∧ (many : Int) = t.ai) := fun h9 => by exact absurd h9.2 (by omega)
 have hT := Qm hold hmx hne (U0 htxcc3); rw [← hr2, hok2] at hT;rw [if_neg Bool.false_ne_true] at hT;exact ⟨zq2, zr2, hT.symm, hq2, fun _ => hf2 hok2, fun h => by (rw [hok2] at h; cases h), by rw [hok2], (E.o.erS [7,6,5,4,3,2,1])⟩;have hok2 : zr2.ok = true := by simpa using cc4
 refine xcf rfl<|xsk<|xet<|xsq<|xsr<|Xw 2 5 E rfl rfl<|Xw 3 5 E rfl rfl<|xy rfl (fun a J=>ZcB old old rfl (J.ev rfl) (J.ev rfl))<|xne<|xcs 89 rfl (fun cc5=>?_) fun cc5=>?_;have heq : (old).eqv old = false := by simpa using cc5
 refine xct rfl<|xrl<|Xw 7 8 E rfl rfl<|Xw 3 5 E rfl rfl ?_;replace E:=E.pks [0];refine yc (JG w0 _ zq2 old 5 _ hoo (hW2 hok2) (by omega) E.o) func151 ?_;rintro _ w21 ⟨zq3, hq3, rfl, hs1⟩;refine ⟨_, rfl, ?_⟩; replace E := Bx.mk hs1;clear hs1;refine yst E 7 ?_;clear E;intro w22 E;replace E:=E.nm;refine xne<|xsq ?_;refine hld [5,4] E ?_;clear E;intro w23 E M;refine Hw 0 5 8 E rfl rfl<|Hw 1 4 7 E rfl rfl ?_;refine Zl 2 ?_;refine yos 5 [5,4] M ?_;clear E M;intro w24 E M;refine Zl 3 ?_;refine yos 4 [5,4] M ?_;clear E M;intro w25 E M;refine Hp 4 E rfl ?_;refine hdn ?_;replace E := M; clear M;refine xet<|xre ?_;intro a J;refine Zx J results112 (J.resBox rfl (E.o.box 5 rfl) (by kernel_rfl)) (J.resBox rfl (E.o.box 4 rfl) (by kernel_rfl)) (J.res rfl) ?_;replace E:=E.pks [0];have hne : ¬ (((Zn q0.d old).toList == text.toList) = true ∧ (many : Int) = t.ai) := fun h9 => by exact absurd h9.2 (by omega)
 have hT := Qm hold hmx hne (U0 htxcc3); rw [← hr2, hok2] at hT;rw [if_pos rfl, heq] at hT;rw [if_neg Bool.false_ne_true] at hT;exact ⟨zq3, _, hT.symm, by rw [hq3, hq2], fun h => (nomatch h), fun _ => hq3 ▸ (hW2 hok2).free hoo, rfl, (E.o.erS [7,6,5,4,3,2,1])⟩;have heq : (old).eqv old = true := by simpa using cc5
 refine xcf rfl<|xsk<|xet<|xsq ?_;refine hld [5,4] E ?_;clear E;intro w26 E M;refine Hw 0 5 8 E rfl rfl<|Hw 1 4 7 E rfl rfl ?_;refine Zl 2 ?_;refine yos 5 [5,4] M ?_;clear E M;intro w27 E M;refine Zl 3 ?_;refine yos 4 [5,4] M ?_;clear E M;intro w28 E M;refine Hp 4 E rfl ?_;refine hdn ?_;replace E := M; clear M;refine xet<|xre ?_;intro a J;refine Zx J results112 (J.resBox rfl (E.o.box 5 rfl) (by kernel_rfl)) (J.resBox rfl (E.o.box 4 rfl) (by kernel_rfl)) (J.res rfl) ?_;replace E:=E.pks [0];have hne : ¬ (((Zn q0.d old).toList == text.toList) = true ∧ (many : Int) = t.ai) := fun h9 => by exact absurd h9.2 (by omega)
 have hT := Qm hold hmx hne (U0 htxcc3); rw [← hr2, hok2] at hT;rw [if_pos rfl, heq] at hT;rw [if_pos rfl] at hT;exact ⟨zq2, _, hT.symm, hq2, fun h => (nomatch h), fun _ => (hW2 hok2).more (by omega), rfl, (E.o.erS [7,6,5,4,3,2,1])⟩;have htxcc1 : ((Zn q0.d old).toList == text.toList) = false := by simpa using cc1
 refine xr 5 rfl<|xne<|xcf rfl<|xsk<|xet<|xsr<|Xw 0 5 E rfl rfl ?_;refine yal z5 E ?_;clear E;intro w29 b9 E;refine yst E 0 ?_;clear E;intro w30 E;replace E:=E.nm;refine xne<|xsq<|xsr<|xr 2 rfl<|xy rfl (fun a J=>Y8 rfl (J.ev rfl) (J.ev rfl))<|xne<|xcs 53 rfl (fun cc6=>?_) fun cc6=>?_;have htxcc6 : ((Zn q0.d old).toList == text.toList) = false := by simpa using cc6
 refine xct rfl<|xsr<|xy rfl (vb z5 rfl) ?_;refine yst E 0 ?_;clear E;intro w31 E;replace E:=E.nm;refine xne<|xsr<|xr 1 rfl<|xy rfl (fun a J=>Y8 rfl (J.ev rfl) (J.ev rfl))<|xne<|xcs 56 rfl (fun cc7=>?_) fun cc7=>?_;have hte : (text.toList == ByteArray.empty.toList) = false := by simpa using cc7
 have htz : inB (text.size : Int) 1 128 = true := XT (by have := Ub hte; omega) (by omega);refine xct rfl<|xsr<|Xw 6 8 E rfl rfl<|xr 1 rfl ?_;replace E:=E.pks [7];refine yc (Zb6 w0 _ q0 text 0 _ hq htz rfl E.o) func149 ?_;rintro _ w32 ⟨zq1, zr1, hr1, hq1, rfl, hs1⟩;refine ⟨_, rfl, ?_⟩; replace E := Bx.mk hs1;clear hs1;refine xr 4 rfl ?_;refine yal z8 E ?_;clear E;intro w33 b10 E;refine yal z5 E ?_;clear E;intro w34 b11 E;refine yst E 1 ?_;clear E;intro w35 E;replace E:=E.nm;refine yst E 0 ?_;clear E;intro w36 E;replace E:=E.nm;refine xr 1 rfl<|xne<|xsq<|xsr<|xr 2 rfl<|xne<|xcs 65 rfl (fun cc8=>?_) fun cc8=>?_;have hok1b : zr1.ok = false := by simpa using cc8
 refine xct rfl<|xsq ?_;refine hld [7,6] E ?_;clear E;intro w37 E M;refine Hw 0 7 8 E rfl rfl<|Hw 1 6 7 E rfl rfl ?_;refine Zl 2 ?_;refine yos 7 [7,6] M ?_;clear E M;intro w38 E M;refine Zl 3 ?_;refine yos 6 [7,6] M ?_;clear E M;intro w39 E M;refine Hp 4 E rfl ?_;refine hdn ?_;replace E := M; clear M;refine xet<|xre<|xtr<|xtr ?_;intro a J;refine Zx J results112 (J.resBox rfl (E.o.box 7 rfl) (by kernel_rfl)) (J.resBox rfl (E.o.box 6 rfl) (by kernel_rfl)) (J.res rfl) ?_;replace E:=E.pks [2];have hzs : zr1.st = q0.d := by rw [hr1] at hok1b ⊢; unfold YE at hok1b ⊢; split at hok1b; (cases hok1b); rw [if_neg (by assumption)]
 have hz : zq1 = q0 := by rw [hq1, hzs]
 have hT := ZfF (t := t) (k := k) hold htxcc6 ((V7 htxcc6 (Ub hte)).trans (hr1.symm.trans (U1 hok1b)));subst hz;exact ⟨zq1, _, hT.symm, rfl, fun _ => ⟨rfl, J9.refl _⟩, fun h => (nomatch h), rfl, (E.o.erS [9,8,7,6,5,4,3,2,1])⟩;have hok1b : zr1.ok = true := by simpa using cc8
 have hg1 := ZhF (text := text) (level := 0) hq htz rfl; rw [← hr1] at hg1; have hpo1 := hg1.2; have hok1 : zq1.d.ok = true := by rw [hq1]; exact hg1.1.ok hq
 refine xcf rfl<|xsk<|xet<|xsr<|Xw 1 8 E rfl rfl ?_;refine yst E 9 ?_;clear E;intro w40 E;replace E:=E.nm;refine xne<|xrl<|Xw 0 5 E rfl rfl ?_;refine yst E 3 ?_;clear E;intro w41 E;replace E:=E.nm;refine xne<|xsr<|xr 2 rfl<|Xw 3 5 E rfl rfl<|xy rfl (vx 24 k 5 rfl) ?_;intro a J;refine ZaP PtrD.cells_len rfl rfl rfl (J.ev rfl) (J.ev rfl) (by kernel_rfl) E.o 5 rfl (by omega) (z := zr1.p) rfl (by first | rfl | simp [Value.oneCell']) ?_; clear E; intro w42 E; replace E := Bx.mk E;revert a;refine xne<|xsr<|Xw 9 8 E rfl rfl<|Xw 8 7 E rfl rfl<|xr 2 rfl ?_;have hsl : ((Zo x).set k zr1.p).length = 16 := by rw [length_set]; exact hwl
 have hzl : (Zo x).length = ((Zo x).set k zr1.p).length := (length_set ..).symm;intro a J;rw [hzl] at E J;replace E:=E.nm;replace E:=E.pks [5,3];revert a;refine yc (Zb7 w0 _ zq1 t _ _ ((Zo x).set k zr1.p) many (depthN (many : Int)) _ rfl hsl (ZiN hwo hpo1) (by omega) hok1 X.root (fun hd hh => by rw [hq1, hr1]; exact ZkH hq hh (X.kid hd hh)) E.o) func150 ?_;rintro _ w43 ⟨zq2, zr2, hr2, hq2, hf2, hW2, rfl, hs1⟩;refine ⟨_, rfl, ?_⟩; replace E := Bx.mk hs1;clear hs1;refine xr 4 rfl ?_;refine yst E 9 ?_;clear E;intro w44 E;replace E:=E.nm;refine yst E 8 ?_;clear E;intro w45 E;replace E:=E.nm;refine xr 1 rfl<|xne<|xsq<|xsr<|xr 2 rfl<|xne<|xcs 84 rfl (fun cc9=>?_) fun cc9=>?_;have hok2 : zr2.ok = false := by simpa using cc9
 refine xct rfl<|xsq ?_;refine hld [7,6] E ?_;clear E;intro w46 E M;refine Hw 0 7 8 E rfl rfl<|Hw 1 6 7 E rfl rfl ?_;refine Zl 2 ?_;refine yos 7 [7,6] M ?_;clear E M;intro w47 E M;refine Zl 3 ?_;refine yos 6 [7,6] M ?_;clear E M;intro w48 E M;refine Hp 4 E rfl ?_;refine hdn ?_;replace E := M; clear M;refine xet<|xre<|xtr ?_;intro a J;refine Zx J results112 (J.resBox rfl (E.o.box 7 rfl) (by kernel_rfl)) (J.resBox rfl (E.o.box 6 rfl) (by kernel_rfl)) (J.res rfl) ?_;replace E:=E.pks [0];have hq1d : zq1.d = zr1.st := by rw [hq1]
 rw [hq1d] at hr2;have hne : ¬ (((Zn q0.d old).toList == text.toList) = true ∧ (many : Int) = t.ai) := fun h9 => by rw [htxcc6] at h9; exact absurd h9.1 (by decide)
 have hT := Qm hold hmx hne (((V7 htxcc6 (Ub hte)).trans (hr1.symm.trans (U1 hok1b)))); rw [← hr2, hok2] at hT;rw [if_neg Bool.false_ne_true] at hT;obtain ⟨hfa, hfb⟩ := hf2 hok2;exact ⟨zq2, zr2, hT.symm, hq2, fun _ => ⟨by rw [hfa, hq1], hg1.1.trans (hq1d ▸ hfb)⟩, fun h => by (rw [hok2] at h; cases h), by rw [hok2], (E.o.erS [9,8,7,6,5,4,3,2,1])⟩;have hok2 : zr2.ok = true := by simpa using cc9
 refine xcf rfl<|xsk<|xet<|xsq<|xsr<|Xw 4 5 E rfl rfl<|Xw 5 5 E rfl rfl<|xy rfl (fun a J=>ZcB zr1.p old rfl (J.ev rfl) (J.ev rfl))<|xne<|xcs 89 rfl (fun cc10=>?_) fun cc10=>?_;have heq : (zr1.p).eqv old = false := by simpa using cc10
 refine xct rfl<|xrl<|Xw 9 8 E rfl rfl<|Xw 5 5 E rfl rfl ?_;replace E:=E.pks [0];refine yc (JG w0 _ zq2 old 5 _ hoo (hW2 hok2) (by omega) E.o) func151 ?_;rintro _ w49 ⟨zq3, hq3, rfl, hs1⟩;refine ⟨_, rfl, ?_⟩; replace E := Bx.mk hs1;clear hs1;refine yst E 9 ?_;clear E;intro w50 E;replace E:=E.nm;refine xne<|xsq ?_;refine hld [7,6] E ?_;clear E;intro w51 E M;refine Hw 0 7 8 E rfl rfl<|Hw 1 6 7 E rfl rfl ?_;refine Zl 2 ?_;refine yos 7 [7,6] M ?_;clear E M;intro w52 E M;refine Zl 3 ?_;refine yos 6 [7,6] M ?_;clear E M;intro w53 E M;refine Hp 4 E rfl ?_;refine hdn ?_;replace E := M; clear M;refine xet<|xre ?_;intro a J;refine Zx J results112 (J.resBox rfl (E.o.box 7 rfl) (by kernel_rfl)) (J.resBox rfl (E.o.box 6 rfl) (by kernel_rfl)) (J.res rfl) ?_;replace E:=E.pks [0];have hq1d : zq1.d = zr1.st := by rw [hq1]
 rw [hq1d] at hr2;have hne : ¬ (((Zn q0.d old).toList == text.toList) = true ∧ (many : Int) = t.ai) := fun h9 => by rw [htxcc6] at h9; exact absurd h9.1 (by decide)
 have hT := Qm hold hmx hne (((V7 htxcc6 (Ub hte)).trans (hr1.symm.trans (U1 hok1b)))); rw [← hr2, hok2] at hT;rw [if_pos rfl, heq] at hT;rw [if_neg Bool.false_ne_true] at hT;exact ⟨zq3, _, hT.symm, by rw [hq3, hq2], fun h => (nomatch h), fun _ => hq3 ▸ (hW2 hok2).free hoo, rfl, (E.o.erS [9,8,7,6,5,4,3,2,1])⟩;have heq : (zr1.p).eqv old = true := by simpa using cc10
 refine xcf rfl<|xsk<|xet<|xsq ?_;refine hld [7,6] E ?_;clear E;intro w54 E M;refine Hw 0 7 8 E rfl rfl<|Hw 1 6 7 E rfl rfl ?_;refine Zl 2 ?_;refine yos 7 [7,6] M ?_;clear E M;intro w55 E M;refine Zl 3 ?_;refine yos 6 [7,6] M ?_;clear E M;intro w56 E M;refine Hp 4 E rfl ?_;refine hdn ?_;replace E := M; clear M;refine xet<|xre ?_;intro a J;refine Zx J results112 (J.resBox rfl (E.o.box 7 rfl) (by kernel_rfl)) (J.resBox rfl (E.o.box 6 rfl) (by kernel_rfl)) (J.res rfl) ?_;replace E:=E.pks [0];have hq1d : zq1.d = zr1.st := by rw [hq1]
 rw [hq1d] at hr2;have hne : ¬ (((Zn q0.d old).toList == text.toList) = true ∧ (many : Int) = t.ai) := fun h9 => by rw [htxcc6] at h9; exact absurd h9.1 (by decide)
 have hT := Qm hold hmx hne (((V7 htxcc6 (Ub hte)).trans (hr1.symm.trans (U1 hok1b)))); rw [← hr2, hok2] at hT;rw [if_pos rfl, heq] at hT;rw [if_pos rfl] at hT;exact ⟨zq2, _, hT.symm, hq2, fun h => (nomatch h), fun _ => (hW2 hok2).more (by omega), rfl, (E.o.erS [9,8,7,6,5,4,3,2,1])⟩;have hte : (text.toList == ByteArray.empty.toList) = true := by simpa using cc7
 refine xcf rfl<|xsk<|xet<|xsr<|xr 2 rfl<|Xw 0 5 E rfl rfl<|xy rfl (vx 24 k 5 rfl) ?_;intro a J;refine ZaP PtrD.cells_len rfl rfl rfl (J.ev rfl) (J.ev rfl) (by kernel_rfl) E.o 2 rfl (by omega) (z := PtrD.zero) rfl (by first | rfl | simp [Value.oneCell']) ?_; clear E; intro w57 E; replace E := Bx.mk E;revert a;refine xne<|xsr<|Xw 6 8 E rfl rfl<|Xw 5 7 E rfl rfl<|xr 2 rfl ?_;have hsl : ((Zo x).set k PtrD.zero).length = 16 := by rw [length_set]; exact hwl
 have hzl : (Zo x).length = ((Zo x).set k PtrD.zero).length := (length_set ..).symm;intro a J;rw [hzl] at E J;replace E:=E.nm;replace E:=E.pks [2,7];revert a;refine yc (Zb7 w0 _ q0 t _ _ ((Zo x).set k PtrD.zero) many (depthN (many : Int)) _ rfl hsl (ZiN hwo rfl) (by omega) hq X.root X.kid E.o) func150 ?_;rintro _ w58 ⟨zq2, zr2, hr2, hq2, hf2, hW2, rfl, hs1⟩;refine ⟨_, rfl, ?_⟩; replace E := Bx.mk hs1;clear hs1;refine xr 4 rfl ?_;refine yst E 7 ?_;clear E;intro w59 E;replace E:=E.nm;refine yst E 6 ?_;clear E;intro w60 E;replace E:=E.nm;refine xr 1 rfl<|xne<|xsq<|xsr<|xr 2 rfl<|xne<|xcs 84 rfl (fun cc11=>?_) fun cc11=>?_;have hok2 : zr2.ok = false := by simpa using cc11
 refine xct rfl<|xsq ?_;refine hld [5,4] E ?_;clear E;intro w61 E M;refine Hw 0 5 8 E rfl rfl<|Hw 1 4 7 E rfl rfl ?_;refine Zl 2 ?_;refine yos 5 [5,4] M ?_;clear E M;intro w62 E M;refine Zl 3 ?_;refine yos 4 [5,4] M ?_;clear E M;intro w63 E M;refine Hp 4 E rfl ?_;refine hdn ?_;replace E := M; clear M;refine xet<|xre<|xtr ?_;intro a J;refine Zx J results112 (J.resBox rfl (E.o.box 5 rfl) (by kernel_rfl)) (J.resBox rfl (E.o.box 4 rfl) (by kernel_rfl)) (J.res rfl) ?_;replace E:=E.pks [0];have hne : ¬ (((Zn q0.d old).toList == text.toList) = true ∧ (many : Int) = t.ai) := fun h9 => by rw [htxcc6] at h9; exact absurd h9.1 (by decide)
 have hT := Qm hold hmx hne (Zav htxcc6 (Zaw hte)); rw [← hr2, hok2] at hT;rw [if_neg Bool.false_ne_true] at hT;exact ⟨zq2, zr2, hT.symm, hq2, fun _ => hf2 hok2, fun h => by (rw [hok2] at h; cases h), by rw [hok2], (E.o.erS [7,6,5,4,3,2,1])⟩;have hok2 : zr2.ok = true := by simpa using cc11
 refine xcf rfl<|xsk<|xet<|xsq<|xsr<|Xw 2 5 E rfl rfl<|Xw 3 5 E rfl rfl<|xy rfl (fun a J=>ZcB PtrD.zero old rfl (J.ev rfl) (J.ev rfl))<|xne<|xcs 89 rfl (fun cc12=>?_) fun cc12=>?_;have heq : (PtrD.zero).eqv old = false := by simpa using cc12
 refine xct rfl<|xrl<|Xw 7 8 E rfl rfl<|Xw 3 5 E rfl rfl ?_;replace E:=E.pks [0];refine yc (JG w0 _ zq2 old 5 _ hoo (hW2 hok2) (by omega) E.o) func151 ?_;rintro _ w64 ⟨zq3, hq3, rfl, hs1⟩;refine ⟨_, rfl, ?_⟩; replace E := Bx.mk hs1;clear hs1;refine yst E 7 ?_;clear E;intro w65 E;replace E:=E.nm;refine xne<|xsq ?_;refine hld [5,4] E ?_;clear E;intro w66 E M;refine Hw 0 5 8 E rfl rfl<|Hw 1 4 7 E rfl rfl ?_;refine Zl 2 ?_;refine yos 5 [5,4] M ?_;clear E M;intro w67 E M;refine Zl 3 ?_;refine yos 4 [5,4] M ?_;clear E M;intro w68 E M;refine Hp 4 E rfl ?_;refine hdn ?_;replace E := M; clear M;refine xet<|xre ?_;intro a J;refine Zx J results112 (J.resBox rfl (E.o.box 5 rfl) (by kernel_rfl)) (J.resBox rfl (E.o.box 4 rfl) (by kernel_rfl)) (J.res rfl) ?_;replace E:=E.pks [0];have hne : ¬ (((Zn q0.d old).toList == text.toList) = true ∧ (many : Int) = t.ai) := fun h9 => by rw [htxcc6] at h9; exact absurd h9.1 (by decide)
 have hT := Qm hold hmx hne (Zav htxcc6 (Zaw hte)); rw [← hr2, hok2] at hT;rw [if_pos rfl, heq] at hT;rw [if_neg Bool.false_ne_true] at hT;exact ⟨zq3, _, hT.symm, by rw [hq3, hq2], fun h => (nomatch h), fun _ => hq3 ▸ (hW2 hok2).free hoo, rfl, (E.o.erS [7,6,5,4,3,2,1])⟩;have heq : (PtrD.zero).eqv old = true := by simpa using cc12
 refine xcf rfl<|xsk<|xet<|xsq ?_;refine hld [5,4] E ?_;clear E;intro w69 E M;refine Hw 0 5 8 E rfl rfl<|Hw 1 4 7 E rfl rfl ?_;refine Zl 2 ?_;refine yos 5 [5,4] M ?_;clear E M;intro w70 E M;refine Zl 3 ?_;refine yos 4 [5,4] M ?_;clear E M;intro w71 E M;refine Hp 4 E rfl ?_;refine hdn ?_;replace E := M; clear M;refine xet<|xre ?_;intro a J;refine Zx J results112 (J.resBox rfl (E.o.box 5 rfl) (by kernel_rfl)) (J.resBox rfl (E.o.box 4 rfl) (by kernel_rfl)) (J.res rfl) ?_;replace E:=E.pks [0];have hne : ¬ (((Zn q0.d old).toList == text.toList) = true ∧ (many : Int) = t.ai) := fun h9 => by rw [htxcc6] at h9; exact absurd h9.1 (by decide)
 have hT := Qm hold hmx hne (Zav htxcc6 (Zaw hte)); rw [← hr2, hok2] at hT;rw [if_pos rfl, heq] at hT;rw [if_pos rfl] at hT;exact ⟨zq2, _, hT.symm, hq2, fun h => (nomatch h), fun _ => (hW2 hok2).more (by omega), rfl, (E.o.erS [7,6,5,4,3,2,1])⟩;rw [htxcc1] at cc6; simp at cc6
theorem Zb8 {q : SQ} {s : Za} (h : q.d.ok = true) (hg : J9 q.d s) : (.agg #[.slice q.a0 q.d.ac.length q.c0, .slice q.a1 q.d.aa.ag.length q.c1, .slice q.a2 q.d.aa.au.length q.c2, .int .i64 q.d.av, .slice q.a4 q.d.ak.length q.c4, .int .i64 q.d.ax, .slice q.a6 q.d.ar.length q.c6, .bool q.d.aA] : Value) = .agg #[.slice ((SQ.mk q.a0 q.c0 q.a1 q.c1 q.a2 q.c2 q.a4 q.c4 q.a6 q.c6 s).a0) ((SQ.mk q.a0 q.c0 q.a1 q.c1 q.a2 q.c2 q.a4 q.c4 q.a6 q.c6 s).d.ac.length) ((SQ.mk q.a0 q.c0 q.a1 q.c1 q.a2 q.c2 q.a4 q.c4 q.a6 q.c6 s).c0), .slice ((SQ.mk q.a0 q.c0 q.a1 q.c1 q.a2 q.c2 q.a4 q.c4 q.a6 q.c6 s).a1) ((SQ.mk q.a0 q.c0 q.a1 q.c1 q.a2 q.c2 q.a4 q.c4 q.a6 q.c6 s).d.aa.ag.length) ((SQ.mk q.a0 q.c0 q.a1 q.c1 q.a2 q.c2 q.a4 q.c4 q.a6 q.c6 s).c1), .slice ((SQ.mk q.a0 q.c0 q.a1 q.c1 q.a2 q.c2 q.a4 q.c4 q.a6 q.c6 s).a2) ((SQ.mk q.a0 q.c0 q.a1 q.c1 q.a2 q.c2 q.a4 q.c4 q.a6 q.c6 s).d.aa.au.length) ((SQ.mk q.a0 q.c0 q.a1 q.c1 q.a2 q.c2 q.a4 q.c4 q.a6 q.c6 s).c2), .int .i64 ((SQ.mk q.a0 q.c0 q.a1 q.c1 q.a2 q.c2 q.a4 q.c4 q.a6 q.c6 s).d.av), .slice ((SQ.mk q.a0 q.c0 q.a1 q.c1 q.a2 q.c2 q.a4 q.c4 q.a6 q.c6 s).a4) ((SQ.mk q.a0 q.c0 q.a1 q.c1 q.a2 q.c2 q.a4 q.c4 q.a6 q.c6 s).d.ak.length) ((SQ.mk q.a0 q.c0 q.a1 q.c1 q.a2 q.c2 q.a4 q.c4 q.a6 q.c6 s).c4), .int .i64 ((SQ.mk q.a0 q.c0 q.a1 q.c1 q.a2 q.c2 q.a4 q.c4 q.a6 q.c6 s).d.ax), .slice ((SQ.mk q.a0 q.c0 q.a1 q.c1 q.a2 q.c2 q.a4 q.c4 q.a6 q.c6 s).a6) ((SQ.mk q.a0 q.c0 q.a1 q.c1 q.a2 q.c2 q.a4 q.c4 q.a6 q.c6 s).d.ar.length) ((SQ.mk q.a0 q.c0 q.a1 q.c1 q.a2 q.c2 q.a4 q.c4 q.a6 q.c6 s).c6), .bool ((SQ.mk q.a0 q.c0 q.a1 q.c1 q.a2 q.c2 q.a4 q.c4 q.a6 q.c6 s).d.aA)] := by
 have a := Za.ok_spec h; have b := Za.ok_spec (hg.ok h);have c := Zq.ok_spec a.space; have d := Zq.ok_spec b.space;dsimp only;rw [a.rows, b.rows, c.refs, d.refs, c.last, d.last, hg.txg, hg.keep, hg.same, hg.gone, hg.dead]
theorem Zb9 {l : List PtrD} {i : Nat} {s : Za} (hi : i < l.length) : Qo (l.drop i) s = Qo (l.drop (i + 1)) (s.free (l.getD i PtrD.zero)) := by
 rw [UM hi]; rfl
theorem Zep (w0 w : World) (q0 : SQ) (t : Ze) {x l : List PtrD} (X : TreeX q0.d t x l) (many : Nat) (hm16 : many ≤ 16) (F : List Asr) (hq : q0.d.ok = true) (hS : St w0 (q0.asr :: F) w) : Calls prog 159 #[q0.u, tV t, .int .i64 (many : Int)] w fun e w' => ∃ (q' : SQ) (r : UY), r = QX q0.d t x many ∧ q'.d = r.st ∧ (r.ok = false → q' = { q0 with d := r.st } ∧ J9 q0.d r.st) ∧ (r.ok = true → Vo 30 q'.d) ∧ e = .returned (.tuple #[q'.u, tV r.t, .bool r.ok]) ∧ St w0 (q'.asr :: F) w' := by
 have hrow0 := Xk hq; have hwl := UP X.x16; have hwo := ZbS X.xok;have E := Bx.mk hS; clear hS;refine ent func159 ntmps159 ?_;refine xsr ?_;refine ybx E ?_;clear E;intro w1 b1 E;refine ybx E ?_;clear E;intro w2 b2 E;refine yal z8 E ?_;clear E;intro w3 b3 E;refine yal z7 E ?_;clear E;intro w4 b4 E;refine xr 1 rfl<|xne<|xsq<|xsr<|xr 1 rfl<|Xf 6 rfl<|Xl 2 E rfl rfl<|xr 1 rfl<|xne<|xce 17 rfl (fun _ dcc1=>?_) fun _ dcc1=>?_;refine xct rfl<|xsq ?_;refine hld [1,0] E ?_;clear E;intro w5 E M;refine Hw 0 1 8 E rfl rfl<|Hw 1 0 7 E rfl rfl ?_;refine Zl 2 ?_;refine yos 1 [1,0] M ?_;clear E M;intro w6 E M;refine Zl 3 ?_;refine yos 0 [1,0] M ?_;clear E M;intro w7 E M;refine Hp 4 E rfl ?_;refine hdn ?_;replace E := M; clear M;refine xet<|xre<|xtr ?_;intro a J;refine Zx J results159 (J.resBox rfl (E.o.box 1 rfl) (by kernel_rfl)) (J.resBox rfl (E.o.box 0 rfl) (by kernel_rfl)) (J.res rfl) ?_;replace E:=E.pks [4];have hT : QX q0.d t x many = ⟨q0.d, t, true⟩ := by unfold QX; rw [if_pos (by omega)]
 exact ⟨q0, _, hT.symm, rfl, fun h => (nomatch h), fun _ => (Jw hq).more (by omega), rfl, (E.o.erS [4,3,2,1])⟩;refine xcf rfl<|xsk<|xet<|xsr<|Xw 3 8 E rfl rfl<|Xw 2 7 E rfl rfl ?_;refine yc (Vi q0.a0 q0.c0 q0.a1 q0.c1 q0.a2 q0.c2 q0.a4 q0.c4 q0.a6 q0.c6 q0.d t X.dn X.dep X.x16 _ (E.o.sqRd 4 rfl) hrow0) func95 ?_;rintro _ w8 ⟨ao5, cp5, rfl, hs⟩;refine ⟨_, rfl, ?_⟩;replace E := E.ad hs;clear hs;refine xr 1 rfl<|xne<|xsr<|Xw 4 8 E rfl rfl<|Xw 3 7 E rfl rfl<|xr 2 rfl ?_;replace E:=E.pks [0,5];refine yc (Zb7 w0 _ q0 t _ _ (Zo x) many (depthN (many : Int)) _ rfl hwl hwo (by omega) hq X.root X.kid E.o) func150 ?_;rintro _ w9 ⟨zq1, zt1, hr1, hq1, hf1, hW1, rfl, hs1⟩;refine ⟨_, rfl, ?_⟩; replace E := Bx.mk hs1;clear hs1;refine xr 4 rfl ?_;refine yal z8 E ?_;clear E;intro w10 b6 E;refine yal z7 E ?_;clear E;intro w11 b7 E;refine yst E 1 ?_;clear E;intro w12 E;replace E:=E.nm;refine yst E 0 ?_;clear E;intro w13 E;replace E:=E.nm;refine xr 1 rfl<|xne<|xsq<|xsr<|xr 2 rfl<|xne<|xcs 33 rfl (fun cc2=>?_) fun cc2=>?_;have hok1 : zt1.ok = false := by simpa using cc2
 refine xct rfl<|xsq ?_;refine hld [5,4] E ?_;clear E;intro w14 E M;refine Hw 0 5 8 E rfl rfl<|Hw 1 4 7 E rfl rfl ?_;refine Zl 2 ?_;refine yos 5 [5,4] M ?_;clear E M;intro w15 E M;refine Zl 3 ?_;refine yos 4 [5,4] M ?_;clear E M;intro w16 E M;refine Hp 4 E rfl ?_;refine hdn ?_;replace E := M; clear M;refine xet<|xre<|xtr ?_;intro a J;refine Zx J results159 (J.resBox rfl (E.o.box 5 rfl) (by kernel_rfl)) (J.resBox rfl (E.o.box 4 rfl) (by kernel_rfl)) (J.res rfl) ?_;replace E:=E.pks [2];obtain ⟨hfa, hfb⟩ := hf1 hok1;have hT : QX q0.d t x many = ⟨zt1.st, t, false⟩ := by unfold QX; rw [if_neg (by omega), ← hr1, hok1, if_neg Bool.false_ne_true]
 exact ⟨zq1, _, hT.symm, hq1, fun _ => ⟨hfa, hfb⟩, fun h => (nomatch h), by rw [hfa, Zb8 hq hfb] <;> rfl, (E.o.erS [7,6,5,4,3,2,1])⟩;have hok1 : zt1.ok = true := by simpa using cc2
 refine xcf rfl<|xsk<|xet<|xsq<|xsr<|xr 2 rfl<|xne<|xbl ?_;replace E:=E.pks [1,2];intro a J;refine Zt (ι := Nat) (fun i a w => ∃ (q2 : SQ), (many ≤ i ∧ i ≤ 16 ∧ Qo ((Zo x).drop i) q2.d = Qo ((Zo x).drop many) zq1.d ∧ Vo (i + 5) q2.d) ∧ Fr 51 a [(2, .int .i64 (many : Int)), (3, .pointer (some ⟨b1, 0, none⟩)), (4, .pointer (some ⟨b2, 0, none⟩)), (6, .pointer (some ⟨b3, 0, none⟩)), (7, .pointer (some ⟨b4, 0, none⟩)), (9, .slice ao5 ((Zo x).length) cp5), (10, .pointer (some ⟨b6, 0, none⟩)), (11, .pointer (some ⟨b7, 0, none⟩)), (13, .int .i64 (i : Int))] ∧ St w0 (SQ.asr q2 :: boxA b6 8 44 (q2.u) :: boxA b7 7 26 (tV zt1.t) :: Zg PtrD.cells 5 24 (.slice ao5 ((Zo x).length) cp5) (Zo x) :: boxA b4 7 26 (az7) :: boxA b3 8 44 (az8) :: boxA b2 7 26 (tV t) :: boxA b1 8 44 (q0.u) :: F) w) (fun i => 16 - i) many ⟨zq1, ⟨Nat.le_refl _, by omega, rfl, (hW1 hok1).more (by omega)⟩, J.less _ ⟨rfl, rfl, rfl, rfl, rfl, rfl, rfl, rfl, rfl, trivial⟩, E.o⟩ ?_;clear J E; clear a;rintro i a w17 ⟨q2, ⟨hmi, hi, hfr, hW⟩, J, E⟩;replace E := Bx.mk E;revert a;refine xsq<|xsr<|xr 2 rfl<|xy rfl (vn 24 5 rfl)<|xr 1 rfl<|xne<|xcd 40 rfl (fun _ dcc3=>?_) fun _ dcc3=>?_
 refine xct rfl<|xsk<|xet<|xsq<|xbl ?_;obtain ⟨g8, rfl, _, _, _, _⟩ := E.o.rowOpen 3 rfl (by omega);refine hld [1,0] E ?_;clear E;intro w18 E M;refine Hp 1 E rfl<|Hp 2 E rfl<|xhy 3 E.o rfl rfl (fun E=>vx 24 i 5 rfl)<|xhy 4 E.o rfl rfl (fun E a J=>ylr (cs := pL ((Zo x).getD i PtrD.zero)) rfl (J.ev rfl) (E.elem PtrD.cells_len 1 rfl (Zi (xs := (Zo x)) (j := i) (d := PtrD.zero) (by omega)))) ?_;refine Zl 0 ?_;refine yoy E (fun a J=>ylr (cs := q2.l) rfl (J.ev rfl) ((M.o.box 1 rfl).sub 0 8)) ?_;refine Zl 5 ?_;intro a J;replace M:=M.pks [0];revert a;refine yo (JG w0 _ q2 ((Zo x).getD i PtrD.zero) (i + 5) _ (hwo _ (YK (by omega))) hW (by omega) M.o) func151 ?_;rintro _ w21 ⟨zq3, hq3, rfl, hs1⟩;refine ⟨_, rfl, ?_⟩; replace M := Bx.mk hs1;clear hs1;intro a J;replace M:=M.nm;clear E;have E:=M.ers [1,0];refine ⟨E.o, ?_⟩;revert a;refine Zl 6 ?_;refine yos 1 [1,0] M ?_;clear E M;intro w22 E M;refine hdn ?_;replace E := M; clear M;refine xeb<|xet<|xrl<|xr 1 rfl<|xy rfl (vad rfl)<|xr 1 rfl<|xne ?_;have hst := Zb9 (s := q2.d) (show i < (Zo x).length by omega); rw [← hq3] at hst;intro a J;exact ⟨i + 1, ⟨_, ⟨by omega, by omega, hst.symm.trans hfr, by rw [show i + 1 + 5 = i + 5 + 1 by omega]; exact hq3 ▸ hW.free (hwo _ (YK (by omega)))⟩, J.less _ ⟨rfl, rfl, rfl, rfl, rfl, rfl, rfl, rfl, rfl, trivial⟩, E.o⟩, (by omega)⟩;refine xcf rfl<|xex<|xtx<|xtx<|xbh<|xet<|xsq ?_;refine hld [5,4] E ?_;clear E;intro w23 E M;refine Hw 0 1 8 E rfl rfl<|Hw 1 2 7 E rfl rfl ?_;refine Zl 2 ?_;refine yos 5 [5,4] M ?_;clear E M;intro w24 E M;refine Zl 3 ?_;refine yos 4 [5,4] M ?_;clear E M;intro w25 E M;refine Hp 4 E rfl ?_;refine hdn ?_;replace E := M; clear M;refine xet<|xre ?_;intro a J;refine Zx J results159 (J.resBox rfl (E.o.box 5 rfl) (by kernel_rfl)) (J.resBox rfl (E.o.box 4 rfl) (by kernel_rfl)) (J.res rfl) ?_;replace E:=E.pks [0];have hT : QX q0.d t x many = ⟨q2.d, zt1.t, true⟩ := by unfold QX; rw [if_neg (by omega), ← hr1, hok1, if_pos rfl, ← hq1, ← hfr, List.drop_of_length_le (by omega)]; rfl
 exact ⟨q2, _, hT.symm, rfl, fun h => (nomatch h), fun _ => hW.more (by omega), rfl, (E.o.erS [7,6,5,4,3,2,1])⟩
noncomputable def innL (st : Za) : Nat → PtrD → List PtrD
 | 0, _ => []
 | n + 1, p => bif p.hole then [] else p :: ((kids st p ((n + 1 : Nat) : Int)).getD []).flatMap (innL st n)
theorem U3 {st : Za} {p : PtrD} (h : p.hole = true) : ∀ n, innL st n p = []
 | 0 => rfl
 | n + 1 => by unfold innL; rw [h]; rfl
theorem Xy {st : Za} {p : PtrD} {n : Nat} {l : List PtrD} (h : p.hole = false) (hk : kids st p ((n + 1 : Nat) : Int) = some l) : innL st (n + 1) p = p :: l.flatMap (innL st n) := by
 show (bif p.hole then [] else p :: ((kids st p ((n + 1 : Nat) : Int)).getD []).flatMap (innL st n)) = _;rw [h, hk]; rfl
theorem Zca {p : PtrD} (h : p.hole = true) {i : Nat} (hi : 8 ≤ i) : cnt [p] i = 0 := UX (fun q hq => by rw [mem_singleton.1 hq]; exact h) hi
theorem ZhJ {f g h : PtrD → List PtrD} {i : Nat} : ∀ {l : List PtrD}, (∀ q ∈ l, cnt (f q) i = cnt (g q) i + cnt (h q) i) → cnt (l.flatMap f) i = cnt (l.flatMap g) i + cnt (l.flatMap h) i
 | [], _ => rfl
 | q :: r, e => by
  rw [flatMap_cons, flatMap_cons, flatMap_cons, Zj, Zj, Zj, e q (mem_cons_self ..), ZhJ fun x hx => e x (mem_cons_of_mem _ hx)]
  omega
theorem ZjE (n i : Nat) (hi : 8 ≤ i) : cnt (replicate n PtrD.zero) i = 0 := UX (fun q hq => by rw [(mem_replicate.1 hq).2]; rfl) hi
theorem Zeq {st : Za} : ∀ {n : Nat} {p : PtrD}, Wf st n p → ∀ i, 8 ≤ i → cnt (allL st n p) i = cnt (innL st n p) i + cnt (lvL st n p) i
 | 0, p, _, i, hi => by
  show cnt (allL st 0 p) i = cnt [] i + cnt [p] i
  cases hh : p.hole with
  | true => rw [ZV hh, Zca hh hi]; rfl
  | false => rw [Qz hh, Jv, Nat.zero_add]
 | n + 1, p, ⟨ho, hb, l, hk, hw⟩, i, hi => by
  cases hh : p.hole with
  | true => rw [ZV hh, U3 hh, ZbV hh, ZjE _ _ hi, Jv]
  | false =>
   rw [YZ hh hk, Xy hh hk, QS hk, Y3, Y3, ZhJ fun q hq => Zeq (hw q hq) i hi]
   omega
theorem ZhK {st : Za} : ∀ {n : Nat} {p : PtrD}, Wf st n p → ∀ q ∈ innL st n p, q ∈ allL st n p
 | 0, p, _, q, hq => by cases hq
 | n + 1, p, ⟨ho, hb, l, hk, hw⟩, q, hq => by
  cases hh : p.hole with
  | true => rw [U3 hh] at hq; cases hq
  | false =>
   rw [Xy hh hk] at hq;rw [YZ hh hk];rcases mem_cons.1 hq with rfl | hq
   ·exact mem_cons_self ..
   ·obtain ⟨k, hkl, hq⟩ := List.mem_flatMap.1 hq
    exact mem_cons_of_mem _ (List.mem_flatMap.2 ⟨k, hkl, ZhK (hw k hkl) q hq⟩)
theorem ZjF {st : Za} : ∀ {n : Nat} {p : PtrD}, Wf st n p → ∀ q ∈ lvL st n p, q.hole = true ∨ q ∈ allL st n p
 | 0, p, _, q, hq => by
  rw [show lvL st 0 p = [p] from rfl, mem_singleton] at hq;subst hq
  cases hh : q.hole with
  | true => exact .inl rfl
  | false => rw [Qz hh]; exact .inr (mem_singleton.2 rfl)
 | n + 1, p, ⟨ho, hb, l, hk, hw⟩, q, hq => by
  cases hh : p.hole with
  | true => rw [ZbV hh] at hq; rw [(mem_replicate.1 hq).2]; exact .inl rfl
  | false =>
   rw [QS hk] at hq;obtain ⟨k, hkl, hq⟩ := List.mem_flatMap.1 hq;rcases ZjF (hw k hkl) q hq with h | h
   ·exact .inl h
   ·rw [YZ hh hk]; exact .inr (mem_cons_of_mem _ (List.mem_flatMap.2 ⟨k, hkl, h⟩))
theorem Zcb {st : Za} {n : Nat} {p : PtrD} (h : Wf st (n + 1) p) : ∃ l, kidsS st p ((n + 1 : Nat) : Int) = some l ∧ kids st p ((n + 1 : Nat) : Int) = some l ∧ ∀ k ∈ l, Wf st n k := by
 obtain ⟨ho, hb, l, hk, hw⟩ := h;exact ⟨l, by rw [JY ho hb]; exact hk, hk, hw⟩
theorem ZjG {st : Za} {n : Nat} : ∀ {l : List PtrD}, (∀ p ∈ l, Wf st (n + 1) p) → YQ (fun p => kidsS st p ((n + 1 : Nat) : Int)) l = some (l.flatMap fun p => (kids st p ((n + 1 : Nat) : Int)).getD []) ∧ ∀ q ∈ (l.flatMap fun p => (kids st p ((n + 1 : Nat) : Int)).getD []), Wf st n q
 | [], _ => ⟨rfl, fun q hq => nomatch hq⟩
 | p :: r, h => by
  obtain ⟨l, h1, h2, h3⟩ := Zcb (h p (mem_cons_self ..));obtain ⟨e, hw⟩ := ZjG fun q hq => h q (mem_cons_of_mem _ hq)
  refine ⟨by rw [Zap h1, e, flatMap_cons, h2]; rfl, fun q hq => ?_⟩;rw [flatMap_cons, h2] at hq;rcases mem_append.1 hq with hq | hq
  ·exact h3 q hq
  ·exact hw q hq
theorem Zer {st : Za} : ∀ l : List PtrD, l.flatMap (lvL st 0) = l
 | [] => rfl
 | q :: r => by rw [flatMap_cons, Zer r]; rfl
theorem ZfK (f g : PtrD → List PtrD) : ∀ l : List PtrD, (l.flatMap f).flatMap g = l.flatMap fun p => (f p).flatMap g
 | [] => rfl
 | q :: r => by rw [flatMap_cons, List.flatMap_append, flatMap_cons, ZfK f g r]
theorem ZjH {st : Za} : ∀ {n : Nat} {l : List PtrD}, (∀ p ∈ l, Wf st n p) → downL (kidsS st) n l = some (l.flatMap (lvL st n))
 | 0, l, _ => by
  show some l = _
  congr 1
  exact (Zer l).symm
 | n + 1, l, h => by
  obtain ⟨e, hw⟩ := ZjG h;rw [JE e, ZjH hw, ZfK]
  rfl
section
variable {st0 : Za} {inn R A : List PtrD} {n : Nat}
theorem ZkI {back : List PtrD} {m : Nat} (h : back.length = 4 * (m + 1)) : (back.take 4).length = 4 ∧ (back.drop 4).length = 4 * m := by
 rw [length_take, List.length_drop]; omega
def ZjI (st0 : Za) (inn : List PtrD) (n : Nat) (w : PtrD) : Prop := w.hole = true ∨ (w.hole = false ∧ Wf st0 (n + 1) w ∧ w ∈ inn)
theorem Zcc (hn : n + 1 ≤ 2) : ∀ {m : Nat} {L W next back was stays : List PtrD} {st : Za} {N : List PtrD}, LayI st0 inn R A L n W next back stays st N → back.length = 4 * m → m ≤ was.length → (∀ w ∈ was, ZjI st0 inn n w) →
  ((Xb ((n + 1 : Nat) : Int) m back was st next stays).ok = true → ∃ N', LayI st0 inn R A L n (W ++ was.take m) (Xb ((n + 1 : Nat) : Int) m back was st next stays).next [] (Xb ((n + 1 : Nat) : Int) m back was st next stays).stays (Xb ((n + 1 : Nat) : Int) m back was st next stays).st N' ∧ (Xb ((n + 1 : Nat) : Int) m back was st next stays).next.length = next.length + m) ∧
  ((Xb ((n + 1 : Nat) : Int) m back was st next stays).ok = false → ∃ N', Inv (Xb ((n + 1 : Nat) : Int) m back was st next stays).st (N' ++ (inn ++ R)) ∧ Z4 st0 (Xb ((n + 1 : Nat) : Int) m back was st next stays).st (inn ++ R))
 | 0, L, W, next, back, was, stays, st, N, h, hb, _, _ => by
  obtain rfl : back = [] := List.length_eq_zero_iff.1 (by omega);rw [Zky, List.take_zero, append_nil];exact ⟨fun _ => ⟨N, h, rfl⟩, fun e => by cases e⟩
 | m + 1, L, W, next, back, was, stays, st, N, h, hb, hw, hwo => by
  obtain ⟨w, wr, rfl⟩ : ∃ w wr, was = w :: wr := by
   cases was with
   | nil => simp at hw
   | cons w wr => exact ⟨w, wr, rfl⟩
  obtain ⟨hc4, hb4⟩ := ZkI hb;have hsplit : back = back.take 4 ++ back.drop 4 := (List.take_append_drop 4 back).symm;rw [hsplit] at h;have hco : ∀ p ∈ back.take 4, p.ok = true := fun p hp => (h.wfb p (mem_append_left _ hp)).ok.1
  have hok := h.inv.ok;have hwo1 := hwo w (mem_cons_self ..);have hwr : ∀ x ∈ wr, ZjI st0 inn n x := fun x hx => hwo x (mem_cons_of_mem _ hx)
  have hlw : m ≤ wr.length := by simpa using hw
  -- the step
  have key : ∀ {s : Za} {p : PtrD} {N' : List PtrD}, Yg st (back.take 4) ((n + 1 : Nat) : Int) w = ⟨s, p, true⟩ → LayI st0 inn R A L n (W ++ [w]) (next ++ [p]) (back.drop 4) (QU stays p w) s N' →
    ((Xb ((n + 1 : Nat) : Int) (m + 1) back (w :: wr) st next stays).ok = true → ∃ N', LayI st0 inn R A L n (W ++ (w :: wr).take (m + 1)) (Xb ((n + 1 : Nat) : Int) (m + 1) back (w :: wr) st next stays).next [] (Xb ((n + 1 : Nat) : Int) (m + 1) back (w :: wr) st next stays).stays (Xb ((n + 1 : Nat) : Int) (m + 1) back (w :: wr) st next stays).st N' ∧ (Xb ((n + 1 : Nat) : Int) (m + 1) back (w :: wr) st next stays).next.length = next.length + (m + 1)) ∧
    ((Xb ((n + 1 : Nat) : Int) (m + 1) back (w :: wr) st next stays).ok = false → ∃ N', Inv (Xb ((n + 1 : Nat) : Int) (m + 1) back (w :: wr) st next stays).st (N' ++ (inn ++ R)) ∧ Z4 st0 (Xb ((n + 1 : Nat) : Int) (m + 1) back (w :: wr) st next stays).st (inn ++ R)) := fun {s p N'} hf hl => by
   have ih := Zcc hn hl hb4 hlw hwr;have e : Xb ((n + 1 : Nat) : Int) (m + 1) back (w :: wr) st next stays = Xb ((n + 1 : Nat) : Int) m (back.drop 4) wr s (next ++ [p]) (QU stays p w) := ZhE hf;rw [e];refine ⟨fun ho => ?_, ih.2⟩;obtain ⟨N2, h2, h3⟩ := ih.1 ho;refine ⟨N2, ?_, by rw [h3, length_append, length_singleton]; omega⟩;rw [List.take_succ_cons, show W ++ w :: wr.take m = (W ++ [w]) ++ wr.take m by simp];exact h2
  cases ha : (back.take 4).all (fun p => p.hole) with
  | true => exact key (Vm ha) (h.hole hc4 ha w)
  | false =>
   have hfan : ∀ s, fanB (back.take 4) = s → IsFan s (back.take 4) := fun s e => ⟨hc4, hco, ha, e⟩
   cases hs : Xm st (back.take 4) w with
   | true =>
    have hs2 := hs;unfold Xm at hs2;simp only [Bool.and_eq_true, Bool.not_eq_true'] at hs2;rcases hwo1 with hw1 | ⟨hw1, hw2, hw3⟩
    ·rw [hw1] at hs2; exact absurd hs2.1 (by decide)
    ·exact key (Vn ha hs) (h.reuse (hfan _ (Qd hs2.2.2).symm) hw1 hw2 hw3)
   | false =>
    by_cases hi : writeAt st (fanB (back.take 4)) ((n + 1 : Nat) : Int) < 64
    ·exact key (Zc7 ha hs hi rfl) (h.fresh (hfan _ rfl) (Zb5 hc4 hco) hn hi rfl w)
    ·have e : Xb ((n + 1 : Nat) : Int) (m + 1) back (w :: wr) st next stays = ⟨st, next, stays, false⟩ := ZjA (p := PtrD.zero) (Zeh ha hs (by have := J8 st (fanB (back.take 4)) ((n + 1 : Nat) : Int); omega))
     rw [e];exact ⟨fun e => (nomatch e), fun _ => ⟨N, h.inv, h.kp⟩⟩
end
theorem Zbj {st : Za} {l : List PtrD} (h : ∀ q ∈ l, Wf st 1 q) : l.flatMap (innL st 1) = l.filter fun q => !q.hole := by
 induction l with
 | nil => rfl
 | cons q r ih =>
  rw [flatMap_cons, ih fun x hx => h x (mem_cons_of_mem _ hx), List.filter_cons];obtain ⟨_, _, m, hk, _⟩ := h q (mem_cons_self ..)
  cases hh : q.hole with
  | true => rw [U3 hh]; rfl
  | false =>
   rw [Xy hh hk, show m.flatMap (innL st 0) = [] by rw [List.flatMap_eq_nil_iff]; intro _ _; rfl]; rfl
theorem ZkJ {st : Za} {t : Ze} {d : Nat} (hd : t.aw = (d : Int)) (h2 : d ≤ 2) (hw : Wf st d t.af) : ZH st t = innL st d t.af := by
 unfold ZH;rcases (by omega : d = 0 ∨ d = 1 ∨ d = 2) with rfl | rfl | rfl
 ·rw [if_pos (.inl (by omega))]; rfl
 ·cases hh : t.af.hole with
  | true => rw [if_pos (.inr rfl), U3 hh]
  | false =>
   obtain ⟨_, _, m, hk, _⟩ := hw;rw [if_neg (fun h => h.elim (fun h => by omega) (fun h => by cases h)), if_neg (by omega), Xy hh hk, show m.flatMap (innL st 0) = [] by rw [List.flatMap_eq_nil_iff]; intro _ _; rfl]
 ·cases hh : t.af.hole with
  | true => rw [if_pos (.inr rfl), U3 hh]
  | false =>
   obtain ⟨m, hks, hk, hm⟩ := Zcb hw;rw [if_neg (fun h => h.elim (fun h => by omega) (fun h => by cases h)), if_pos (by omega), Xy hh hk, Zbj hm, show kidsS st t.af 2 = some m from hks]; rfl
theorem Zes {st s : Za} {t : Ze} {d0 d lv : Nat} (hd0 : t.aw = (d0 : Int)) (h2 : d0 ≤ 2) (hw : Wf st d0 t.af) {Y : List PtrD} (hk : Z4 st s Y) (hY : ∀ q ∈ innL st d0 t.af, q ∈ Y) (h1 : 1 ≤ lv) (hl : lv ≤ d) :
  Ye s t d lv = Ye st t d lv ∧ ∀ w ∈ Ye st t d lv, ZjI st (innL st d0 t.af) (lv - 1) w := by
 have hz : ∀ w ∈ YI, ZjI st (innL st d0 t.af) (lv - 1) w := fun w hw => by
  simp only [YI, mem_cons, List.not_mem_nil, or_false, or_self] at hw;rw [hw]; exact .inl rfl
 unfold Ye
 by_cases e : t.aw = (d : Int)
 ·obtain rfl : d0 = d := by omega
  rw [if_pos e, if_pos e]
  by_cases e2 : lv = d0
  ·rw [if_pos e2, if_pos e2]
   refine ⟨rfl, fun w hwm => ?_⟩;rw [mem_singleton.1 hwm];obtain ⟨n, rfl⟩ : ∃ n, d0 = n + 1 := ⟨d0 - 1, by omega⟩
   cases hh : t.af.hole with
   | true => exact .inl hh
   | false =>
    have hw2 := hw;obtain ⟨_, _, m, hk2, _⟩ := hw2;exact .inr ⟨hh, by rw [show lv - 1 + 1 = n + 1 by omega]; exact hw, by rw [Xy hh hk2]; exact mem_cons_self ..⟩
  ·rw [if_neg e2, if_neg e2]
   obtain rfl : d0 = 2 := by omega
   obtain rfl : lv = 1 := by omega
   obtain ⟨m, hks, hkk, hm⟩ := Zcb hw;have hks : kidsS st t.af ((2 : Nat) : Int) = some m := hks;have hss : kidsS s t.af ((2 : Nat) : Int) = some m := by
    cases hh : t.af.hole with
    | true => rw [JX hh] at hks ⊢; exact hks
    | false =>
     have hrow := hk.row t.af (hY _ (by rw [Xy hh hkk]; exact mem_cons_self ..)) hw.ok.1 hh;rw [← hks];unfold kidsS;rw [ZbU fun _ => hrow, hk.txg]
   rw [hks, hss];refine ⟨rfl, fun w hwm => ?_⟩
   cases hh : t.af.hole with
   | true =>
    rw [JX hh] at hks;obtain rfl := Option.some.inj hks;exact hz w hwm
   | false =>
    cases hwh : w.hole with
    | true => exact .inl hwh
    | false =>
     refine .inr ⟨hwh, hm w hwm, ?_⟩;rw [Xy hh hkk, Zbj hm];exact mem_cons_of_mem _ (List.mem_filter.2 ⟨hwm, by rw [hwh]; rfl⟩)
 ·rw [if_neg e, if_neg e]
  exact ⟨rfl, hz⟩
theorem Xj.sub {a b : List PtrD} (h : a.Sublist b) : Xj a b := fun f i _ => Zgs (h.filter f) i
theorem Vp (m : Nat) : ∀ q ∈ YI.take m, q.hole = true := fun q hq => by
 have := List.mem_of_mem_take hq;simp only [YI, mem_cons, List.not_mem_nil, or_false, or_self] at this;rw [this]; rfl
theorem Zmz {st : Za} {t : Ze} {d0 : Nat} (hd0 : t.aw = (d0 : Int)) (h2 : d0 ≤ 2) (hw : Wf st d0 t.af) (m : Nat) : Xj ((Ye st t 1 1).take m) (innL st d0 t.af) := by
 unfold Ye
 by_cases e : t.aw = ((1 : Nat) : Int)
 ·obtain rfl : d0 = 1 := by omega
  rw [if_pos e, if_pos rfl];refine (Xj.sub (List.take_sublist ..)).trans ?_
  cases hh : t.af.hole with
  | true => exact Xj.holes fun q hq => by rw [mem_singleton.1 hq]; exact hh
  | false =>
   obtain ⟨_, _, l, hk, _⟩ := hw;rw [Xy hh hk];exact Xj.sub (List.singleton_sublist.2 (mem_cons_self ..))
 ·rw [if_neg e]; exact Xj.holes (Vp m)
theorem ZmA {st : Za} {t : Ze} {d0 : Nat} (hd0 : t.aw = (d0 : Int)) (h2 : d0 ≤ 2) (hw : Wf st d0 t.af) (m k : Nat) : Xj ((Ye st t 2 1).take m ++ (Ye st t 2 2).take k) (innL st d0 t.af) := by
 unfold Ye
 by_cases e : t.aw = ((2 : Nat) : Int)
 ·obtain rfl : d0 = 2 := by omega
  rw [if_pos e, if_pos e, if_neg (by omega), if_pos rfl];obtain ⟨l, hks, hkk, hm⟩ := Zcb hw;rw [show kidsS st t.af ((2 : Nat) : Int) = some l from hks];refine ((Xj.sub (List.take_sublist ..)).app (Xj.sub (List.take_sublist ..))).trans ?_
  cases hh : t.af.hole with
  | true =>
   rw [JX hh] at hks;obtain rfl := Option.some.inj hks;refine Xj.holes fun q hq => ?_;rcases mem_append.1 hq with hq | hq
   ·simp only [getD_some, YI, mem_cons, List.not_mem_nil, or_false, or_self] at hq
    rw [hq]; rfl
   ·rw [mem_singleton.1 hq]; exact hh
  | false =>
   rw [Xy hh hkk, Zbj hm];refine ((Xj.some l).app (Xj.refl [t.af])).trans ?_;exact Xj.swap _ _
 ·rw [if_neg e, if_neg e]
  refine Xj.holes fun q hq => ?_;rcases mem_append.1 hq with hq | hq
  ·exact Vp _ q hq
  ·exact Vp _ q hq
theorem ZcG {sy : List PtrD} : ∀ {inn Y : List PtrD} {s : Za}, Inv s (inn ++ Y) → (∀ p ∈ inn, p.ok = true) → Inv (Vy sy inn s) (inn.filter (Jh sy) ++ Y) ∧ Z4 s (Vy sy inn s) (inn.filter (Jh sy) ++ Y)
 | [], Y, s, h, _ => ⟨h, Z4.refl _ _⟩
 | p :: r, Y, s, h, ho => by
  have hor : ∀ q ∈ r, q.ok = true := fun q hq => ho q (mem_cons_of_mem _ hq)
  rw [List.filter_cons];show Inv (Vy sy r (if Jh sy p = true then s else s.free p)) _ ∧ Z4 s (Vy sy r (if Jh sy p = true then s else s.free p)) _
  cases hk : Jh sy p with
  | true =>
   rw [if_pos rfl, if_pos rfl];have h2 : Inv s (r ++ (p :: Y)) := h.mono fun i _ _ => by
    rw [List.cons_append, Y3, Zj, Zj, Y3]; omega
   obtain ⟨i1, i2⟩ := ZcG (sy := sy) h2 hor;refine ⟨i1.mono fun i _ _ => ?_, i2.mono fun q hq => ?_⟩
   ·rw [List.cons_append, Y3, Zj, Zj, Y3]; omega
   ·rw [List.cons_append] at hq
    rcases mem_cons.1 hq with rfl | hq
    ·exact mem_append_right _ (mem_cons_self ..)
    ·rcases mem_append.1 hq with hq | hq
     ·exact mem_append_left _ hq
     ·exact mem_append_right _ (mem_cons_of_mem _ hq)
  | false =>
   rw [if_neg Bool.false_ne_true, if_neg Bool.false_ne_true];obtain ⟨j1, j2⟩ := Inv.free (X := r ++ Y) (by rw [List.cons_append] at h; exact h) (ho p (mem_cons_self ..));obtain ⟨i1, i2⟩ := ZcG (sy := sy) j1 hor;refine ⟨i1, (j2.mono fun q hq => ?_).trans i2⟩;rcases mem_append.1 hq with hq | hq
   ·exact mem_append_left _ (List.mem_filter.1 hq).1
   ·exact mem_append_right _ hq
theorem ZmB {r : Zdi} (h : r.ok = true) : (⟨r.st, r.next, r.stays, true⟩ : Zdi) = r := by
 cases r; cases h; rfl
theorem ZfL {t : Ze} {d lv : Nat} {st : Za} {list stays : List PtrD} : XQ t d 1 lv st list stays = Xb (lv : Int) ((XJ list).length / 4) (XJ list) (Ye st t d lv) st [] stays := by
 rw [XQ]
 split
 ·rename_i hk; rw [ZcE]; exact ZmB hk
 ·rfl
theorem ZmC {st : Za} {t : Ze} {d0 : Nat} {R A cs : List PtrD} (hd0 : t.aw = (d0 : Int)) (h2 : d0 ≤ 2) (hw : Wf st d0 t.af) (hI : Inv st (innL st d0 t.af ++ R)) (hcs : ∀ p ∈ cs, Wf st 0 p) (hc : ∀ i, 8 ≤ i → i < 64 → cnt cs i ≤ cnt A i) (hm : ∀ q ∈ cs, q.hole = true ∨ q ∈ R) {d : Nat} (hd : d = depthN (cs.length : Int)) (hl : cs.length ≤ 16) :
  ((XQ t d d 1 st cs []).ok = true → ∃ N z W, LayI st (innL st d0 t.af) R A (cs ++ replicate z PtrD.zero) d W [] (XQ t d d 1 st cs []).next (XQ t d d 1 st cs []).stays (XQ t d d 1 st cs []).st N ∧ Xj W (innL st d0 t.af) ∧ (XQ t d d 1 st cs []).next.length = (if d = 0 then cs.length else 1)) ∧
  ((XQ t d d 1 st cs []).ok = false → ∃ N', Inv (XQ t d d 1 st cs []).st (N' ++ (innL st d0 t.af ++ R)) ∧ Z4 st (XQ t d d 1 st cs []).st (innL st d0 t.af ++ R)) := by
 have hS := LayI.start hI hcs hc hm;have hdd : d ≤ 2 := hd ▸ YR _;rcases (by omega : d = 0 ∨ d = 1 ∨ d = 2) with e | e | e <;> subst e
 ·rw [ZcE]
  exact ⟨fun _ => ⟨[], 0, [], by rw [List.replicate_zero, append_nil]; exact hS, Xj.nil _, rfl⟩, fun e => nomatch e⟩
 ·have hb : 2 ≤ cs.length ∧ cs.length ≤ 4 := by
   unfold depthN at hd; split at hd
   ·omega
   ·split at hd <;> omega
  have hpl := V6 cs;have hp4 : (XJ cs).length = 4 * 1 := by omega
  have h1 := hS.pad ((4 - cs.length % 4) % 4);rw [show cs ++ replicate ((4 - cs.length % 4) % 4) PtrD.zero = XJ cs from rfl] at h1;obtain ⟨ho, hwo⟩ := Zes (s := st) (d := 1) (lv := 1) hd0 h2 hw (Z4.refl _ _) (fun q hq => hq) (Nat.le_refl _) (Nat.le_refl _);have hl1 : 1 ≤ (Ye st t 1 1).length := by unfold Ye; split <;> simp [YI]
  obtain ⟨i1, i2⟩ := Zcc (by omega) h1 hp4 hl1 hwo;have e : (XJ cs).length / 4 = 1 := by omega
  have hU : XQ t 1 1 1 st cs [] = Xb ((0 + 1 : Nat) : Int) 1 (XJ cs) (Ye st t 1 1) st [] [] := by rw [ZfL, e]
  rw [hU];refine ⟨fun hk => ?_, i2⟩;obtain ⟨N', h3, h4⟩ := i1 hk;exact ⟨N', _, _, h3.turn, by rw [nil_append]; exact Zmz hd0 h2 hw 1, h4⟩
 ·have hb : 5 ≤ cs.length := by
   unfold depthN at hd; split at hd
   ·omega
   ·split at hd <;> omega
  have hpl := V6 cs;obtain ⟨m, hm1⟩ : ∃ m, (XJ cs).length = 4 * m := ⟨(cs.length + 3) / 4, by omega⟩;have hm4 : 2 ≤ m ∧ m ≤ 4 := by omega
  have h1 := hS.pad ((4 - cs.length % 4) % 4);rw [show cs ++ replicate ((4 - cs.length % 4) % 4) PtrD.zero = XJ cs from rfl] at h1;obtain ⟨ho, hwo⟩ := Zes (s := st) (d := 2) (lv := 1) hd0 h2 hw (Z4.refl _ _) (fun q hq => hq) (Nat.le_refl _) (by omega);have h4l : ∀ k, ((kidsS st t.af k).getD YI).length = 4 := fun k => by
   cases h : kidsS st t.af k with
   | none => rfl
   | some l => exact Qb h
  have hl1 : (Ye st t 2 1).length = 4 := by
   unfold Ye; split
   ·rw [if_neg (by omega), h4l]
   ·rfl
  obtain ⟨i1, i2⟩ := Zcc (by omega) h1 hm1 (by omega) hwo;have e : (XJ cs).length / 4 = m := by omega
  cases hk : (Xb ((0 + 1 : Nat) : Int) m (XJ cs) (Ye st t 2 1) st [] []).ok with
  | false =>
   have hU : XQ t 2 2 1 st cs [] = Xb ((0 + 1 : Nat) : Int) m (XJ cs) (Ye st t 2 1) st [] [] := by
    rw [XQ, e, if_neg (by rw [hk]; exact Bool.false_ne_true)]
   rw [hU];exact ⟨fun e => (by rw [hk] at e; cases e), i2⟩
  | true =>
   obtain ⟨N', h3, h4⟩ := i1 hk;generalize hr1 : Xb ((0 + 1 : Nat) : Int) m (XJ cs) (Ye st t 2 1) st [] [] = r1 at hk h3 h4;have hU : XQ t 2 2 1 st cs [] = XQ t 2 1 2 r1.st r1.next r1.stays := by
    rw [XQ, e, if_pos (by rw [hr1]; exact hk), hr1]
   have h5 := h3.turn;have hnl : r1.next.length = m := by simpa using h4
   have hpl2 := V6 r1.next;have hp4 : (XJ r1.next).length = 4 * 1 := by omega
   have h6 := h5.pad ((4 - r1.next.length % 4) % 4);rw [show r1.next ++ replicate ((4 - r1.next.length % 4) % 4) PtrD.zero = XJ r1.next from rfl] at h6;obtain ⟨ho2, hwo2⟩ := Zes (s := r1.st) (d := 2) (lv := 2) hd0 h2 hw h3.kp (fun q hq => mem_append_left _ hq) (by omega) (Nat.le_refl _);have hl2 : 1 ≤ (Ye st t 2 2).length := by unfold Ye; split <;> simp [YI]
   obtain ⟨k1, k2⟩ := Zcc (by omega) h6 hp4 (show 1 ≤ (Ye r1.st t 2 2).length by rw [ho2]; exact hl2) (by rw [ho2]; exact hwo2);have e2 : (XJ r1.next).length / 4 = 1 := by omega
   have hU2 : XQ t 2 1 2 r1.st r1.next r1.stays = Xb ((1 + 1 : Nat) : Int) 1 (XJ r1.next) (Ye r1.st t 2 2) r1.st [] r1.stays := by rw [ZfL, e2]
   rw [hU, hU2];refine ⟨fun hk2 => ?_, k2⟩;obtain ⟨N2, h7, h8⟩ := k1 hk2;refine ⟨N2, (4 - cs.length % 4) % 4 * 4 ^ 0 + (4 - r1.next.length % 4) % 4 * 4 ^ 1, ([] ++ (Ye st t 2 1).take m) ++ (Ye r1.st t 2 2).take 1, ?_, ?_, h8⟩
   ·have h9 := h7.turn
    rw [List.append_assoc, List.replicate_append_replicate] at h9;exact h9
   ·rw [ho2, nil_append]; exact ZmA hd0 h2 hw m 1
theorem Zdk {a : List PtrD} {f : PtrD → Bool} (h : ∀ q ∈ a, f q = true) : a.filter f = a := List.filter_eq_self.2 h
structure ZoC (st : Za) (cs R Q : List PtrD) (many : Nat) (r : UY) : Prop where
  t : r.t.aw = ((depthN (many : Int) : Nat) : Int) ∧ r.t.ai = (many : Int)
  wf : Wf r.st (depthN (many : Int)) r.t.af
  lv : ∃ z, lvL r.st (depthN (many : Int)) r.t.af = cs ++ replicate z PtrD.zero
  inv : Inv r.st (allL r.st (depthN (many : Int)) r.t.af ++ Q)
  kp : Z4 st r.st R
theorem ZhL {st : Za} {t : Ze} {d0 : Nat} {R Q cs leaves : List PtrD} (hd0 : t.aw = (d0 : Int)) (h2 : d0 ≤ 2) (hw : Wf st d0 t.af) (hI : Inv st (innL st d0 t.af ++ R)) {many : Nat} (hcl : leaves.take many = cs) (hn : cs.length = many) (hl : many ≤ 16) (hcs : ∀ p ∈ cs, Wf st 0 p) (hm : ∀ q ∈ cs, q.hole = true ∨ q ∈ R) (hQ : ∀ i, 8 ≤ i → i < 64 → cnt cs i + cnt Q i ≤ cnt R i) :
  ((XN st t leaves many).ok = true → ZoC st cs R Q many (XN st t leaves many)) ∧ ((XN st t leaves many).ok = false → Inv (XN st t leaves many).st (innL st d0 t.af ++ R) ∧ Z4 st (XN st t leaves many).st (innL st d0 t.af ++ R)) := by
 have hU := ZmC (A := cs) hd0 h2 hw hI hcs (fun i _ _ => Nat.le_refl _) hm (d := depthN (many : Int)) (by rw [hn]) (by omega);have hdd := YR (many : Int);generalize hdn : depthN (many : Int) = d at hU hdd;generalize hr : XQ t d d 1 st cs [] = r at hU;have hrt : XQ t (depthN (many : Int)) (depthN (many : Int)) 1 st (leaves.take many) [] = r := by rw [hdn, hcl]; exact hr
 have hO := Za.ok_spec hI.ok;have hin := ZkJ hd0 h2 hw;obtain ⟨s, ls, sy, ok⟩ := r
 cases ok with
 | false =>
  rw [ZjB hrt];refine ⟨fun e => (nomatch e), fun _ => ?_⟩;obtain ⟨N', i1, i2⟩ := hU.2 rfl;exact ⟨i1.mono fun i _ _ => by rw [Zj N']; omega, i2⟩
 | true =>
  rw [Zei hrt, hdn];refine ⟨fun _ => ?_, fun e => (nomatch e)⟩;obtain ⟨N, z, W, hL, hSW, hlen⟩ := hU.1 rfl;dsimp only at hL hlen;have hio : ∀ p ∈ innL st d0 t.af, p.ok = true := fun p hp => (UQ hw p (ZhK hw p hp)).1
  have hI2 : Inv s (innL st d0 t.af ++ (N ++ R)) := hL.inv.mono fun i _ _ => by
   simp only [Zj]; omega
  obtain ⟨f1, f2⟩ := ZcG (sy := sy) hI2 hio;have hsO := Za.ok_spec hL.inv.ok
  -- the root
  have hroot : ∃ z, Wf s d (ls.headD PtrD.zero) ∧ lvL s d (ls.headD PtrD.zero) = cs ++ replicate z PtrD.zero ∧ (∀ i, 8 ≤ i → i < 64 → cnt (allL s d (ls.headD PtrD.zero)) i ≤ cnt N i + cnt sy i + cnt cs i) ∧ ∀ q ∈ allL s d (ls.headD PtrD.zero), q ∈ N ∨ (q ∈ sy ∧ q ∈ innL st d0 t.af) ∨ q ∈ R := by
   have hlv := hL.lvs; have hac := hL.acc; have hmm := hL.mem; have hwb := hL.wfb;rw [flatMap_nil, nil_append] at hlv;simp only [flatMap_nil, nil_append] at hac hmm
   cases hls : ls with
   | nil =>
    rw [hls] at hlen hlv;have hd0 : d = 0 := by
     by_cases e : d = 0
     ·exact e
     ·rw [if_neg e] at hlen; cases hlen
    subst hd0;rw [if_pos rfl] at hlen;have hcn : cs = [] := List.length_eq_zero_iff.1 hlen.symm;subst hcn;refine ⟨1, Wf.zero (by have := hsO.txg; omega) 0, rfl, fun i h8 _ => ?_, fun q hq => ?_⟩
    ·show cnt (allL s 0 PtrD.zero) i ≤ _
     rw [ZV X7, Jv]; omega
    ·rw [show allL s 0 (([] : List PtrD).headD PtrD.zero) = [] from ZV X7 0] at hq; cases hq
   | cons p r2 =>
    rw [hls] at hlen hlv hac hmm hwb;have hr2 : r2 = [] := by
     have h1 : ∀ k : Nat, (p :: r2).length = k → k ≤ 1 → r2 = [] := fun k hk hk1 => by
      cases r2 with
      | nil => rfl
      | cons _ _ => simp at hk; omega
     refine h1 _ hlen ?_
     split
     ·rename_i e
      have : (many : Int) ≤ 1 := by
       unfold depthN at hdn
       split at hdn
       ·assumption
       ·split at hdn <;> omega
      omega
     ·exact Nat.le_refl _
    subst hr2;refine ⟨z, hwb p (mem_cons_self ..), ?_, fun i h8 hi => ?_, fun q hq => ?_⟩
    ·rw [flatMap_cons, flatMap_nil, append_nil] at hlv; exact hlv
    ·have := hac i h8 hi
     rw [flatMap_cons, flatMap_nil, append_nil] at this; exact this
    ·exact hmm q (by rw [flatMap_cons, flatMap_nil, append_nil]; exact hq)
  obtain ⟨z, hwr, hlr, hcr, hmr⟩ := hroot;have hkept : ∀ q ∈ sy, Jh sy q = true := fun q hq => List.any_eq_true.2 ⟨q, hq, PtrD.eqv_iff.2 rfl⟩
  have hsub : ∀ i, 8 ≤ i → cnt sy i ≤ cnt ((innL st d0 t.af).filter (Jh sy)) i := fun i hi => by
   have h1 := (hL.sty.trans hSW) (Jh sy) i hi
   rwa [Zdk hkept] at h1
  have hmem : ∀ q ∈ allL s d (ls.headD PtrD.zero), q ∈ (innL st d0 t.af).filter (Jh sy) ++ (N ++ R) := fun q hq => by
   rcases hmr q hq with h | ⟨h, h3⟩ | h
   ·exact mem_append_right _ (mem_append_left _ h)
   ·exact mem_append_left _ (List.mem_filter.2 ⟨h3, hkept q h⟩)
   ·exact mem_append_right _ (mem_append_right _ h)
  rw [hin];obtain ⟨w1, w2, w3⟩ := hwr.rows f2.rows hmem;refine ⟨⟨by rw [hdn], rfl⟩, by rw [hdn]; exact w1, ⟨z, by rw [hdn]; exact w3.trans hlr⟩, ?_, ?_⟩
  ·rw [hdn]
   show Inv _ (allL (Vy sy (innL st d0 t.af) s) d (ls.headD PtrD.zero) ++ Q);rw [w2];refine f1.mono fun i h8 hi => ?_;have h1 := hcr i h8 hi; have h3 := hsub i h8; have h4 := hQ i h8 hi;simp only [Zj]; omega
  ·exact (hL.kp.mono fun q hq => mem_append_right _ hq).trans (f2.mono fun q hq => mem_append_right _ (mem_append_right _ hq))
structure TV (st : Za) (t : Ze) : Prop where
  many : 0 ≤ t.ai ∧ t.ai ≤ 16
  dep : t.aw = ((depthN t.ai : Nat) : Int)
  wf : Wf st (depthN t.ai) t.af
  out : ∀ j, t.ai.toNat ≤ j → ((lvL st (depthN t.ai) t.af).getD j PtrD.zero).hole = true
noncomputable def Ze.ps (st : Za) (t : Ze) : List PtrD := lvL st (depthN t.ai) t.af
noncomputable def Ze.all (st : Za) (t : Ze) : List PtrD := allL st (depthN t.ai) t.af
noncomputable def Ze.tx (st : Za) (t : Ze) : List ByteArray := (Zo (t.ps st)).map (Zn st)
theorem TV.len {st : Za} {t : Ze} (h : TV st t) : (t.ps st).length = 4 ^ depthN t.ai ∧ (t.ps st).length ≤ 16 ∧ t.ai.toNat ≤ (t.ps st).length := by
 have h1 := Zgh h.wf;have h2 := Zl5 (YR t.ai);have h3 := ZaZ h.many.2;have e : (t.ps st).length = 4 ^ depthN t.ai := h1;have := h.many;exact ⟨e, by omega, by omega⟩
theorem TV.wide {st : Za} {t : Ze} (h : TV st t) : (Zo (t.ps st)).length = 16 := UP h.len.2.1
theorem V9 {x : List PtrD} {q : PtrD} (h : q ∈ Zo x) : q ∈ x ∨ q.hole = true := by
 unfold Zo at h;rcases mem_append.1 h with h | h
 ·exact .inl h
 ·rw [(mem_replicate.1 h).2]; exact .inr rfl
theorem ZhM {x : List PtrD} {i : Nat} (hi : 8 ≤ i) : cnt (Zo x) i = cnt x i := by
 unfold Zo; rw [Zj, ZjE _ _ hi]; rfl
theorem TV.leaf {st : Za} {t : Ze} (h : TV st t) (h0 : 0 ≤ st.av) : ∀ q ∈ Zo (t.ps st), Wf st 0 q := fun q hq => by
 rcases V9 hq with hq | hq
 ·exact ZbW h.wf q hq
 ·exact Znv h0 hq
theorem TV.rows {st s : Za} {t : Ze} {X : List PtrD} (h : TV st t) (hr : Yy st s X) (hs : ∀ q ∈ t.all st, q ∈ X) : TV s t ∧ t.all s = t.all st ∧ t.ps s = t.ps st ∧ t.tx s = t.tx st := by
 obtain ⟨w1, w2, w3⟩ := h.wf.rows hr hs;have e3 : t.ps s = t.ps st := w3;refine ⟨⟨h.many, h.dep, w1, fun j hj => by rw [w3]; exact h.out j hj⟩, w2, w3, ?_⟩;unfold Ze.tx;rw [e3];refine List.map_congr_left fun q hq => Zat fun hh => ?_;rcases V9 hq with hq | hq
 ·rcases ZjF h.wf q hq with h1 | h1
  ·rw [hh] at h1; cases h1
  ·exact hr.row q (hs q h1) (UQ h.wf q h1).1 hh
 ·rw [hh] at hq; cases hq
theorem Zet {st : Za} {many : Int} : ∀ {l : List PtrD} {i : Nat}, (∀ q ∈ l, Wf st 0 q) → (∀ j, many ≤ ((i + j : Nat) : Int) → (l.getD j PtrD.zero).hole = true) → Jc st many i l = true
 | [], _, _, _ => rfl
 | q :: r, i, h, ho => by
  have hq := h q (mem_cons_self ..);show (Zhd st many i q && Jc st many (i + 1) r) = true;rw [Zet (fun x hx => h x (mem_cons_of_mem _ hx)) (fun j hj => by have := ho (j + 1) (by omega); simpa using this), Bool.and_true];unfold Zhd
  cases hh : q.hole with
  | true => show (q.aq == 0) = true; rw [ZdP hh]; rfl
  | false =>
   show (XP st q && ((q.aq == 0) && decide ((i : Int) < many))) = true;rw [hq.2.2.2, hq.2.2.1]
   by_cases hi : (i : Int) < many
   ·rw [decide_eq_true hi]; rfl
   ·have := ho 0 (by omega)
    rw [List.getD_cons_zero, hh] at this; cases this
theorem TV.treeX {st : Za} {t : Ze} (h : TV st t) (h0 : 0 ≤ st.av) : TreeX st t (t.ps st) ((t.ps st).take t.ai.toNat) := by
 have hl := h.len;have hok := h.wf.ok;have hx : ∀ p ∈ t.ps st, p.ok = true := fun p hp => (ZbW h.wf p hp).1
 have hd := ZjH (st := st) (l := [t.af]) (n := depthN t.ai) fun p hp => by rw [mem_singleton.1 hp]; exact h.wf
 rw [flatMap_cons, flatMap_nil, append_nil] at hd;have hd2 := (Vh (st := st) (n := depthN t.ai) (l := [t.af]) (fun p hp => by rw [mem_singleton.1 hp]; exact hok) h0).1;refine ⟨hd, h.dep, hl.2.1, hx, ?_, ?_, h.many, ?_⟩
 ·refine VU (l := t.ps st) ?_ (hd2.symm.trans hd) (Zet (fun q hq => ZbW h.wf q hq) fun j hj => h.out j (by omega))
  unfold topB;rw [XT h.many.1 h.many.2, hok.1, decide_eq_true hok.2, h.dep]; simp
 ·rw [length_take]; omega
 ·unfold Zo
  rw [List.take_append_of_le_length (by omega)]
theorem Zeu {st : Za} : ∀ {n : Nat} {p : PtrD}, Wf st n p → ∀ q ∈ allL st n p, q ∈ innL st n p ∨ q ∈ lvL st n p
 | 0, p, _, q, hq => by
  cases hh : p.hole with
  | true => rw [ZV hh] at hq; cases hq
  | false => rw [Qz hh] at hq; exact .inr hq
 | n + 1, p, ⟨ho, hb, l, hk, hw⟩, q, hq => by
  cases hh : p.hole with
  | true => rw [ZV hh] at hq; cases hq
  | false =>
   rw [YZ hh hk] at hq;rw [Xy hh hk, QS hk];rcases mem_cons.1 hq with rfl | hq
   ·exact .inl (mem_cons_self ..)
   ·obtain ⟨k, hkl, hq⟩ := List.mem_flatMap.1 hq
    rcases Zeu (hw k hkl) q hq with h | h
    ·exact .inl (mem_cons_of_mem _ (List.mem_flatMap.2 ⟨k, hkl, h⟩))
    ·exact .inr (List.mem_flatMap.2 ⟨k, hkl, h⟩)
theorem ZnH {l : List PtrD} {k : Nat} (hk : k < l.length) (p : PtrD) (i : Nat) : cnt (l.set k p) i + cnt [l.getD k PtrD.zero] i = cnt l i + cnt [p] i := by
 induction l generalizing k with
 | nil => simp at hk
 | cons a r ih =>
  cases k with
  | zero =>
   rw [List.set_cons_zero, List.getD_cons_zero, show p :: r = [p] ++ r from rfl, show a :: r = [a] ++ r from rfl, Zj, Zj]; omega
  | succ k =>
   have := ih (k := k) (by simpa using hk);rw [List.set_cons_succ, List.getD_cons_succ, show a :: r.set k p = [a] ++ r.set k p from rfl, show a :: r = [a] ++ r from rfl, Zj, Zj]; omega
theorem ZoD {st : Za} {X : List PtrD} {text : ByteArray} {level : Int} (hI : Inv st X) (hsz : inB (text.size : Int) 1 128 = true) (hlv : inB level 0 2 = true) :
  ((YE st text level).ok = true → Inv (YE st text level).st ((YE st text level).p :: X) ∧ Z4 st (YE st text level).st X ∧ (YE st text level).p.ok = true ∧ (YE st text level).p.hole = false ∧ (YE st text level).p.al = st.av ∧ (YE st text level).p.aq = level ∧ XP (YE st text level).st (YE st text level).p = true ∧ Zn (YE st text level).st (YE st text level).p = text) ∧
  ((YE st text level).ok = false → (YE st text level).st = st) := by
 by_cases hi : writeAt st text level < 64
 ·obtain ⟨h1, h2, h3⟩ := hI.write hsz hlv hi rfl
  have hpo := Zgu hI.ok hsz hlv hi rfl;have hph : (YW (writeAt st text level : Int) st.av level text).hole = false := by
   cases hh : (YW (writeAt st text level : Int) st.av level text).hole with
   | false => rfl
   | true =>
    have e : (YW (writeAt st text level : Int) st.av level text).al = 0 := ZdQ hh;have e2 : (YW (writeAt st text level : Int) st.av level text).al = st.av := rfl;have := (Za.ok_spec hI.ok).txg
    omega
  have hfit : Qi (YW (writeAt st text level : Int) st.av level text) text = true := by
   unfold Qi; rw [hpo, hph];show (true && (true && (((text.size : Int)) == (text.size : Int) && (UF text == UF text)))) = true
   simp
  rw [Ua hi rfl];refine ⟨fun _ => ⟨h1, h2, hpo, hph, rfl, rfl, ?_, ?_⟩, fun e => nomatch e⟩
  ·rw [QQ hph, h3]; exact hfit
  ·rw [JC hph (by rw [h3]; exact hfit), h3]
 ·rw [UZ (by have := J8 st text level; omega)]
  exact ⟨fun e => (nomatch e), fun _ => rfl⟩
theorem ZmD {st : Za} {X : List PtrD} {old : PtrD} {text : ByteArray} (hI : Inv st X) (htl : text.size ≤ 128) (hold : Wf st 0 old) :
  ((XO st old text).ok = true → ∃ P1, Inv (XO st old text).st (P1 ++ X) ∧ Z4 st (XO st old text).st X ∧ Wf (XO st old text).st 0 (XO st old text).p ∧ Zn (XO st old text).st (XO st old text).p = text ∧ ((P1 = [] ∧ (XO st old text).p = old) ∨ (P1 = [] ∧ (XO st old text).p = PtrD.zero) ∨ P1 = [(XO st old text).p])) ∧
  ((XO st old text).ok = false → (XO st old text).st = st) := by
 cases h : ((Zn st old).toList == text.toList) with
 | true =>
  rw [U0 h];exact ⟨fun _ => ⟨[], hI, Z4.refl _ _, hold, Qd h, .inl ⟨rfl, rfl⟩⟩, fun e => nomatch e⟩
 | false =>
  by_cases h0 : text.size = 0
  ·rw [Zav h h0]
   have e : text = ByteArray.empty := ByteArray.ext (Array.eq_empty_of_size_eq_zero h0);exact ⟨fun _ => ⟨[], hI, Z4.refl _ _, Wf.zero (show (0 : Int) ≤ st.av by have := (Za.ok_spec hI.ok).txg; omega) 0, by rw [e]; exact Xd rfl, .inr (.inl ⟨rfl, rfl⟩)⟩, fun e => nomatch e⟩
  ·rw [V7 h h0]
   obtain ⟨w1, w2⟩ := ZoD (text := text) (level := 0) hI (XT (by omega) (by omega)) rfl;refine ⟨fun hk => ?_, w2⟩;obtain ⟨a1, a2, a3, a4, a5, a6, a7, a8⟩ := w1 hk;exact ⟨[_], a1, a2, ⟨a3, by rw [a5, a2.txg]; exact Int.le_refl _, a6, a7⟩, a8, .inr (.inr rfl)⟩
theorem ZiO {st : Za} {t : Ze} (h : TV st t) : (t.tx st).length = 16 := by unfold Ze.tx; rw [length_map, h.wide]
theorem Zev {st : Za} {t : Ze} (h : TV st t) {k : Nat} (hk : k < 16) : (t.tx st).getD k ByteArray.empty = Zn st ((Zo (t.ps st)).getD k PtrD.zero) := by
 unfold Ze.tx;have := h.wide;rw [getD_eq_getElem?_getD, getD_eq_getElem?_getD, List.getElem?_map, List.getElem?_eq_getElem (by omega)]; rfl
theorem ZmE {l : List ByteArray} {k : Nat} {x : ByteArray} (h : l.getD k ByteArray.empty = x) (hk : k < l.length) : l.set k x = l := by
 rw [getD_eq_getElem?_getD, List.getElem?_eq_getElem hk] at h;have h : l[k] = x := h;rw [← h, List.set_getElem_self]
theorem Zew {st : Za} {t : Ze} (h : TV st t) {j : Nat} (hj : t.ai.toNat ≤ j) : ((Zo (t.ps st)).getD j PtrD.zero).hole = true := by
 unfold Zo
 by_cases hl : j < (t.ps st).length
 ·rw [getD_eq_getElem?_getD, List.getElem?_append_left hl, ← getD_eq_getElem?_getD]; exact h.out j hj
 ·rw [getD_eq_getElem?_getD, List.getElem?_append_right (by omega), ← getD_eq_getElem?_getD, getD_eq_getElem?_getD, List.getElem?_replicate]
  split <;> rfl
theorem ZkK {l : List PtrD} (h : ∀ j, j < l.length → (l.getD j PtrD.zero).hole = true) : l = replicate l.length PtrD.zero := by
 refine List.ext_getElem (by simp) fun j h1 h2 => ?_;rw [List.getElem_replicate];have := YP (h j h1);rw [getD_eq_getElem?_getD, List.getElem?_eq_getElem h1] at this;exact this
theorem ZoC.tv {st : Za} {cs R Q : List PtrD} {many : Nat} {r : UY} (h : ZoC st cs R Q many r) (hn : cs.length = many) (hm : many ≤ 16) : TV r.st r.t ∧ Zo (r.t.ps r.st) = cs ++ replicate (16 - many) PtrD.zero := by
 obtain ⟨hd, hmm⟩ := h.t;obtain ⟨z, hz⟩ := h.lv;have hps : r.t.ps r.st = cs ++ replicate z PtrD.zero := by unfold Ze.ps; rw [hmm]; exact hz
 refine ⟨⟨by omega, by rw [hmm]; exact hd, by rw [hmm]; exact h.wf, fun j hj => ?_⟩, ?_⟩
 ·rw [hmm, hz, getD_eq_getElem?_getD, List.getElem?_append_right (by omega), List.getElem?_replicate]
  split <;> rfl
 ·have hl : (r.t.ps r.st).length ≤ 16 := by
   have h1 := Zgh h.wf;have h2 := Zl5 (YR (many : Int));unfold Ze.ps; rw [hmm]; omega
  unfold Zo;rw [hps] at hl ⊢;rw [length_append, List.length_replicate] at hl;rw [List.append_assoc, List.replicate_append_replicate, length_append, List.length_replicate]
  congr 2; omega
section
variable {st : Za} {t : Ze} {R : List PtrD} {k : Nat} {text : ByteArray}
structure Zon (st : Za) (t : Ze) (R : List PtrD) (many : Int) (tx : List ByteArray) (r : UY) : Prop where
  tv : TV r.st r.t
  inv : Inv r.st (r.t.all r.st ++ R)
  kp : Z4 st r.st R
  many : r.t.ai = many
  tx : r.t.tx r.st = tx
structure ZmF (st : Za) (t : Ze) (R : List PtrD) (r : UY) : Prop where
  inv : Inv r.st (t.all st ++ R)
  kp : Z4 st r.st (t.all st ++ R)
  t : r.t = t ∨ r.t = tree0
theorem Zex (hI : Inv st (t.all st ++ R)) (hT : TV st t) (hk : k < 16) (htl : text.size ≤ 128) :
  ((XK st t (t.ps st) k text).ok = true → Zon st t R (max t.ai ((k : Int) + 1)) ((t.tx st).set k text) (XK st t (t.ps st) k text)) ∧
  ((XK st t (t.ps st) k text).ok = false → ZmF st t R (XK st t (t.ps st) k text)) := by
 have h0 : 0 ≤ st.av := by have := (Za.ok_spec hI.ok).txg; omega
 have hwl := hT.wide;have hmm := hT.many;obtain ⟨old, hold⟩ : ∃ o, (Zo (t.ps st)).getD k PtrD.zero = o := ⟨_, rfl⟩;have holdm : old ∈ Zo (t.ps st) := hold ▸ YK (by omega);obtain ⟨many, hmx⟩ : ∃ m : Nat, max t.ai ((k : Int) + 1) = (m : Int) := ⟨(max t.ai ((k : Int) + 1)).toNat, by omega⟩;have hm16 : many ≤ 16 := by omega
 have hownt : Zn st old = (t.tx st).getD k ByteArray.empty := by rw [Zev hT hk, hold]
 by_cases hst : ((Zn st old).toList == text.toList) = true ∧ (many : Int) = t.ai
 ·rw [Zej hold hst.1 (hmx.trans hst.2)]
  refine ⟨fun _ => ⟨hT, hI, Z4.refl _ _, (hmx.trans hst.2).symm, ?_⟩, fun e => nomatch e⟩;exact (ZmE (hownt.symm.trans (Qd hst.1)) (by rw [ZiO hT]; exact hk)).symm
 ·obtain ⟨pv1, pv2⟩ := ZmD (X := t.all st ++ R) hI htl (hT.leaf h0 old holdm)
  cases hpk : (XO st old text).ok with
  | false =>
   cases hsame : ((Zn st old).toList == text.toList) with
   | true => rw [U0 hsame] at hpk; cases hpk
   | false =>
    rw [ZfF hold hsame (U1 hpk)];exact ⟨fun e => (nomatch e), fun _ => ⟨hI, Z4.refl _ _, .inl rfl⟩⟩
  | true =>
   obtain ⟨P1, hI1, hK1, hwp, hrt, hP1⟩ := pv1 hpk;have hlay := Qm hold hmx hst (U1 hpk);generalize hs : (XO st old text).st = s at hI1 hK1 hwp hrt hlay;generalize hp : (XO st old text).p = p at hP1 hwp hrt hlay;obtain ⟨tv1, ta1, tp1, tx1⟩ := hT.rows hK1.rows (X := t.all st ++ R) (fun q hq => mem_append_left _ hq);have h0s : 0 ≤ s.av := by rw [hK1.txg]; exact h0
   have hcn := Zeq tv1.wf;have hta : t.all st = allL s (depthN t.ai) t.af := ta1.symm;have htp : t.ps st = lvL s (depthN t.ai) t.af := tp1.symm
   -- the places laid out
   have hLl : ((Zo (t.ps st)).set k p).length = 16 := by rw [length_set]; exact hwl
   have hcl : (((Zo (t.ps st)).set k p).take many).length = many := by rw [length_take]; omega
   have hLm : ∀ q ∈ (Zo (t.ps st)).set k p, q ∈ Zo (t.ps st) ∨ q = p := fun q hq => List.mem_or_eq_of_mem_set hq
   have hcs : ∀ q ∈ ((Zo (t.ps st)).set k p).take many, Wf s 0 q := fun q hq => by
    rcases hLm q (List.mem_of_mem_take hq) with h | rfl
    ·exact tv1.leaf h0s q (by rw [tp1]; exact h)
    ·exact hwp
   have hpm : p.hole = true ∨ p ∈ P1 ++ (t.ps st ++ R) := by
    rcases hP1 with ⟨_, rfl⟩ | ⟨_, rfl⟩ | rfl
    ·rcases V9 holdm with h | h
     ·exact .inr (mem_append_right _ (mem_append_left _ h))
     ·exact .inl h
    ·exact .inl rfl
    ·exact .inr (mem_append_left _ (mem_singleton.2 rfl))
   have hm2 : ∀ q ∈ (Zo (t.ps st)).set k p, q.hole = true ∨ q ∈ P1 ++ (t.ps st ++ R) := fun q hq => by
    rcases hLm q hq with h | rfl
    ·rcases V9 h with h | h
     ·exact .inr (mem_append_right _ (mem_append_left _ h))
     ·exact .inl h
    ·exact hpm
   have hI2 : Inv s (innL s (depthN t.ai) t.af ++ (P1 ++ (t.ps st ++ R))) := hI1.mono fun i h8 _ => by
    have := hcn i h8;rw [← hta, ← htp] at this;simp only [Zj]; omega
   have hQ : ∀ i, 8 ≤ i → i < 64 → cnt (((Zo (t.ps st)).set k p).take many) i + cnt ((if p.eqv old = true then [] else [old]) ++ R) i ≤ cnt (P1 ++ (t.ps st ++ R)) i := fun i h8 _ => by
    have h1 := Zgs (List.take_sublist many ((Zo (t.ps st)).set k p)) i;have h2 := ZnH (l := Zo (t.ps st)) (k := k) (by omega) p i;rw [hold, ZhM h8] at h2;simp only [Zj];have h3 : cnt [PtrD.zero] i = 0 := Zca rfl h8
    by_cases he : p.eqv old = true
    ·rw [if_pos he, Jv]
     have e : p = old := PtrD.eqv_iff.1 he;rw [e] at h2 h1 ⊢
     omega
    ·rw [if_neg he]
     rcases hP1 with ⟨_, e⟩ | ⟨_, e⟩ | e
     ·exact absurd (PtrD.eqv_iff.2 e) he
     ·rw [e] at h1 h2 ⊢; omega
     ·rw [e]; omega
   have hl := ZhL (Q := (if p.eqv old = true then [] else [old]) ++ R) tv1.dep (YR _) tv1.wf hI2 (many := many) (leaves := (Zo (t.ps st)).set k p) rfl hcl hm16 hcs (fun q hq => hm2 q (List.mem_of_mem_take hq)) hQ;rw [hlay]
   cases hlk : (XN s t ((Zo (t.ps st)).set k p) many).ok with
   | false =>
    rw [if_neg Bool.false_ne_true];refine ⟨fun e => (by rw [hlk] at e; cases e), fun _ => ?_⟩;obtain ⟨i1, i2⟩ := hl.2 hlk;refine ⟨i1.mono fun i h8 _ => ?_, hK1.trans (i2.mono fun q hq => ?_), ?_⟩
    ·have := hcn i h8
     rw [← hta, ← htp] at this;simp only [Zj]; omega
    ·rcases mem_append.1 hq with hq | hq
     ·rw [hta] at hq
      rcases Zeu tv1.wf q hq with h | h
      ·exact mem_append_left _ h
      ·rw [← htp] at h; exact mem_append_right _ (mem_append_right _ (mem_append_left _ h))
     ·exact mem_append_right _ (mem_append_right _ (mem_append_right _ hq))
    ·right
     unfold XN at hlk ⊢
     split at hlk
     ·cases hlk
     ·rw [if_neg (by assumption)]
   | true =>
    rw [if_pos rfl];refine ⟨fun _ => ?_, fun e => nomatch e⟩;have hL := hl.1 hlk;generalize hr1 : XN s t ((Zo (t.ps st)).set k p) many = r1 at hL;obtain ⟨tvr, hwr⟩ := hL.tv hcl hm16
    -- what lies behind is holes
    have hrest : ((Zo (t.ps st)).set k p).drop many = replicate (16 - many) PtrD.zero := by
     have h1 := ZkK (l := ((Zo (t.ps st)).set k p).drop many) fun j hj => by
      rw [List.length_drop] at hj;rw [getD_eq_getElem?_getD, List.getElem?_drop, List.getElem?_set_ne (by omega), ← getD_eq_getElem?_getD];exact Zew hT (by omega)
     rw [h1, List.length_drop, hLl]
    have hwide : Zo (r1.t.ps r1.st) = (Zo (t.ps st)).set k p := by
     rw [hwr, ← hrest, List.take_append_drop]
    have htx : r1.t.tx r1.st = (t.tx st).set k text := by
     unfold Ze.tx;rw [hwide, ← hrt, show (Zo (t.ps st)).map (Zn st) = (Zo (t.ps st)).map (Zn s) from by
      have := tx1; unfold Ze.tx at this; rw [tp1] at this; exact this.symm, ← List.map_set]
     refine List.map_congr_left fun q hq => Zat fun hh => ?_;rcases hm2 q hq with h | h
     ·rw [hh] at h; cases h
     ·refine hL.kp.row q h ?_ hh
      rcases hLm q hq with h | rfl
      ·exact (tv1.leaf h0s q (by rw [tp1]; exact h)).1
      ·exact hwp.1
    have hkR : Z4 st r1.st R := (hK1.mono fun q hq => mem_append_right _ hq).trans (hL.kp.mono fun q hq => mem_append_right _ (mem_append_right _ hq));have hmany : r1.t.ai = max t.ai ((k : Int) + 1) := by rw [hL.t.2, hmx]
    have hall : allL r1.st (depthN (many : Int)) r1.t.af = r1.t.all r1.st := by unfold Ze.all; rw [hL.t.2]
    have hinv := hL.inv;rw [hall] at hinv
    by_cases he : p.eqv old = true
    ·rw [if_pos he] at hinv ⊢
     exact ⟨tvr, hinv, hkR, hmany, htx⟩
    ·rw [if_neg he] at hinv ⊢
     have hf := Inv.free (p := old) (X := r1.t.all r1.st ++ R) (hinv.mono fun i _ _ => by rw [Y3]; simp only [Zj, Y3, Jv]; omega) (tv1.leaf h0s old (by rw [tp1]; exact holdm)).1;obtain ⟨tv3, ta3, tp3, tx3⟩ := tvr.rows hf.2.rows (fun q hq => mem_append_left _ hq);exact ⟨tv3, by rw [ta3]; exact hf.1, hkR.trans (hf.2.mono fun q hq => mem_append_right _ hq), hmany, tx3.trans htx⟩
end
theorem Us : ∀ {l Y : List PtrD} {s : Za}, Inv s (l ++ Y) → (∀ p ∈ l, p.ok = true) → Inv (Qo l s) Y ∧ Z4 s (Qo l s) Y
 | [], Y, s, h, _ => ⟨h, Z4.refl _ _⟩
 | p :: r, Y, s, h, ho => by
  rw [List.cons_append] at h;obtain ⟨j1, j2⟩ := Inv.free h (ho p (mem_cons_self ..));obtain ⟨i1, i2⟩ := Us j1 fun q hq => ho q (mem_cons_of_mem _ hq)
  exact ⟨i1, (j2.mono fun q hq => mem_append_right _ hq).trans i2⟩
theorem Zey {st : Za} {t : Ze} {R : List PtrD} {many : Nat} (hI : Inv st (t.all st ++ R)) (hT : TV st t) (hm : (many : Int) ≤ t.ai) :
  ((QX st t (t.ps st) many).ok = true → Zon st t R (many : Int) ((t.tx st).take many ++ replicate (16 - many) ByteArray.empty) (QX st t (t.ps st) many)) ∧
  ((QX st t (t.ps st) many).ok = false → ZmF st t R (QX st t (t.ps st) many)) := by
 have h0 : 0 ≤ st.av := by have := (Za.ok_spec hI.ok).txg; omega
 have hwl := hT.wide;have hmm := hT.many;have hm16 : many ≤ 16 := by omega
 have htl := ZiO hT
 by_cases he : (many : Int) = t.ai
 ·have e : QX st t (t.ps st) many = ⟨st, t, true⟩ := by unfold QX; rw [if_pos he]
  rw [e];refine ⟨fun _ => ⟨hT, hI, Z4.refl _ _, he.symm, ?_⟩, fun e => nomatch e⟩;have hd : (t.tx st).drop many = replicate (16 - many) ByteArray.empty := by
   refine List.ext_getElem (by rw [List.length_drop, List.length_replicate]; omega) fun j h1 h2 => ?_;rw [List.length_replicate] at h2;rw [List.getElem_drop, List.getElem_replicate];have := Zev hT (k := many + j) (by omega);rw [Xd (Zew hT (by omega)), getD_eq_getElem?_getD, List.getElem?_eq_getElem (by omega)] at this;exact this
  rw [← hd, List.take_append_drop]
 ·have hcn := Zeq hT.wf
  have hta : t.all st = allL st (depthN t.ai) t.af := rfl;have htp : t.ps st = lvL st (depthN t.ai) t.af := rfl;have hcl : ((Zo (t.ps st)).take many).length = many := by rw [length_take]; omega
  have hm2 : ∀ q ∈ Zo (t.ps st), q.hole = true ∨ q ∈ t.ps st ++ R := fun q hq => by
   rcases V9 hq with h | h
   ·exact .inr (mem_append_left _ h)
   ·exact .inl h
  have hI2 : Inv st (innL st (depthN t.ai) t.af ++ (t.ps st ++ R)) := hI.mono fun i h8 _ => by
   have := hcn i h8;rw [← hta, ← htp] at this;simp only [Zj]; omega
  have hl := ZhL (Q := (Zo (t.ps st)).drop many ++ R) hT.dep (YR _) hT.wf hI2 (many := many) (leaves := Zo (t.ps st)) rfl hcl hm16 (fun q hq => hT.leaf h0 q (List.mem_of_mem_take hq)) (fun q hq => hm2 q (List.mem_of_mem_take hq)) (fun i h8 _ => by
   have h1 : cnt (Zo (t.ps st)) i = cnt ((Zo (t.ps st)).take many) i + cnt ((Zo (t.ps st)).drop many) i := by rw [← Zj, List.take_append_drop]
   rw [ZhM h8] at h1;simp only [Zj]; omega)
  cases hlk : (XN st t (Zo (t.ps st)) many).ok with
  | false =>
   have e : QX st t (t.ps st) many = ⟨(XN st t (Zo (t.ps st)) many).st, t, false⟩ := by unfold QX; rw [if_neg he, if_neg (by rw [hlk]; exact Bool.false_ne_true)]
   rw [e];refine ⟨fun e => (nomatch e), fun _ => ?_⟩;obtain ⟨i1, i2⟩ := hl.2 hlk;refine ⟨i1.mono fun i h8 _ => ?_, i2.mono fun q hq => ?_, .inl rfl⟩
   ·have := hcn i h8
    rw [← hta, ← htp] at this;simp only [Zj]; omega
   ·rcases mem_append.1 hq with hq | hq
    ·rcases Zeu hT.wf q hq with h | h
     ·exact mem_append_left _ h
     ·exact mem_append_right _ (mem_append_left _ h)
    ·exact mem_append_right _ (mem_append_right _ hq)
  | true =>
   have e : QX st t (t.ps st) many = ⟨Qo ((Zo (t.ps st)).drop many) (XN st t (Zo (t.ps st)) many).st, (XN st t (Zo (t.ps st)) many).t, true⟩ := by unfold QX; rw [if_neg he, if_pos hlk]
   rw [e];refine ⟨fun _ => ?_, fun e => nomatch e⟩;have hL := hl.1 hlk;generalize hr1 : XN st t (Zo (t.ps st)) many = r1 at hL;obtain ⟨tvr, hwr⟩ := hL.tv hcl hm16;have htx : r1.t.tx r1.st = (t.tx st).take many ++ replicate (16 - many) ByteArray.empty := by
    unfold Ze.tx;rw [hwr, List.map_append, List.map_replicate, show Zn r1.st PtrD.zero = ByteArray.empty from Xd rfl, ← List.map_take]
    congr 1
    refine List.map_congr_left fun q hq => Zat fun hh => ?_;have hq := List.mem_of_mem_take hq;rcases hm2 q hq with h | h
    ·rw [hh] at h; cases h
    ·exact hL.kp.row q h (hT.leaf h0 q hq).1 hh
   have hall : allL r1.st (depthN (many : Int)) r1.t.af = r1.t.all r1.st := by unfold Ze.all; rw [hL.t.2]
   have hinv := hL.inv;rw [hall] at hinv;have hf := Us (l := (Zo (t.ps st)).drop many) (Y := r1.t.all r1.st ++ R) (hinv.mono fun i _ _ => by simp only [Zj]; omega) (fun q hq => (hT.leaf h0 q (List.mem_of_mem_drop hq)).1);obtain ⟨tv3, ta3, tp3, tx3⟩ := tvr.rows hf.2.rows (fun q hq => mem_append_left _ hq);exact ⟨tv3, by rw [ta3]; exact hf.1, (hL.kp.mono fun q hq => mem_append_right _ hq).trans (hf.2.mono fun q hq => mem_append_right _ hq), hL.t.2, tx3.trans htx⟩
def Xh (o : Option Zb) : ByteArray := match o with | none => ByteArray.empty | some n => Yb n
noncomputable def ZF (st : Za) (ns : List (Option Zb)) : List PtrD := ns.flatMap fun o => match o with | none => [] | some n => n.ah.all st
structure FS (st : Za) (t : Ze) (ns : List (Option Zb)) (R : List PtrD) : Prop where
  inv : Inv st (t.all st ++ (ZF st ns ++ R))
  tv : TV st t
  tx : t.tx st = ns.map Xh
  ok : ∀ n, some n ∈ ns → n.ok = true
  nv : ∀ n, some n ∈ ns → TV st n.ah
theorem FS.len {st : Za} {t : Ze} {ns : List (Option Zb)} {R : List PtrD} (h : FS st t ns R) : ns.length = 16 := by
 have := congrArg length h.tx;rw [ZiO h.tv, length_map] at this;exact this.symm
theorem QV {st s : Za} : ∀ {ns : List (Option Zb)} {X : List PtrD}, (∀ n, some n ∈ ns → TV st n.ah) → Yy st s X → (∀ q ∈ ZF st ns, q ∈ X) → ZF s ns = ZF st ns ∧ ∀ n, some n ∈ ns → TV s n.ah
 | [], X, _, _, _ => ⟨rfl, fun n hn => nomatch hn⟩
 | o :: r, X, hv, hr, hs => by
  obtain ⟨i1, i2⟩ := QV (ns := r) (fun n hn => hv n (mem_cons_of_mem _ hn)) hr (fun q hq => hs q (by unfold ZF; rw [flatMap_cons]; exact mem_append_right _ hq))
  cases o with
  | none =>
   refine ⟨by unfold ZF; rw [flatMap_cons, flatMap_cons]; unfold ZF at i1; rw [i1], fun n hn => ?_⟩;rcases mem_cons.1 hn with h | h
   ·cases h
   ·exact i2 n h
  | some n =>
   obtain ⟨j1, j2, _⟩ := (hv n (mem_cons_self ..)).rows hr (fun q hq => hs q (by unfold ZF; rw [flatMap_cons]; exact mem_append_left _ hq));refine ⟨by unfold ZF; rw [flatMap_cons, flatMap_cons]; unfold ZF at i1; rw [i1]; show n.ah.all s ++ _ = n.ah.all st ++ _; rw [j2], fun m hm => ?_⟩;rcases mem_cons.1 hm with h | h
   ·cases h; exact j1
   ·exact i2 m h
theorem FS.keep {st s : Za} {t : Ze} {ns : List (Option Zb)} {R R2 : List PtrD} (h : FS st t ns R) (hi : Inv s (t.all st ++ (ZF st ns ++ R2))) (hr : Yy st s (t.all st ++ ZF st ns)) : FS s t ns R2 := by
 obtain ⟨t1, t2, _, t4⟩ := h.tv.rows hr fun q hq => mem_append_left _ hq
 obtain ⟨n1, n2⟩ := QV h.nv hr fun q hq => mem_append_right _ hq
 exact ⟨by rw [t2, n1]; exact hi, t1, t4.trans h.tx, h.ok, n2⟩
theorem FS.next {st : Za} {t : Ze} {ns : List (Option Zb)} {R : List PtrD} (h : FS st t ns R) (ht : st.av < 900) : FS st.nextOf t ns R := by
 obtain ⟨h1, h2⟩ := h.inv.next ht;refine h.keep h1 (h2.mono fun q hq => ?_);rcases mem_append.1 hq with hq | hq
 ·exact mem_append_left _ hq
 ·exact mem_append_right _ (mem_append_left _ hq)
structure FH (st : Za) (t : Ze) (ns : List (Option Zb)) (id : Nat) (Y : List PtrD) : Prop where
  inv : Inv st (t.all st ++ (ZF st (ns.set id none) ++ Y))
  tv : TV st t
  tx : t.tx st = ns.map Xh
  ok : ∀ n, some n ∈ ns.set id none → n.ok = true
  nv : ∀ n, some n ∈ ns.set id none → TV st n.ah
theorem Zaa {st : Za} : ∀ {ns : List (Option Zb)} {id : Nat} {o : Option Zb} (i : Nat), id < ns.length → cnt (ZF st (ns.set id o)) i = cnt (ZF st (ns.set id none)) i + cnt (ZF st [o]) i
 | [], id, o, i, h => by simp at h
 | a :: r, 0, o, i, _ => by
  rw [List.set_cons_zero, List.set_cons_zero];unfold ZF;rw [flatMap_cons, flatMap_cons, flatMap_cons, flatMap_nil, append_nil, Zj, Zj, Jv]; omega
 | a :: r, id + 1, o, i, h => by
  rw [List.set_cons_succ, List.set_cons_succ];have := Zaa (st := st) (ns := r) (id := id) (o := o) i (by simpa using h);unfold ZF at this ⊢;rw [flatMap_cons, flatMap_cons, Zj, Zj]; omega
theorem Ut {st : Za} (n : Zb) : ZF st [some n] = n.ah.all st := by unfold ZF; simp
theorem Vq {st : Za} : ZF st [none] = [] := rfl
theorem Zgy {ns : List (Option Zb)} {id : Nat} {o : Option Zb} (h : ns[id]? = some o) : ns.set id o = ns := by
 obtain ⟨hl, e⟩ := List.getElem?_eq_some_iff.1 h;rw [← e, List.set_getElem_self]
theorem FS.hole {st : Za} {t : Ze} {ns : List (Option Zb)} {R : List PtrD} (h : FS st t ns R) {id : Nat} {o : Option Zb} (ho : ns[id]? = some o) : FH st t ns id (ZF st [o] ++ R) := by
 obtain ⟨hl, _⟩ := List.getElem?_eq_some_iff.1 ho;have hm : ∀ n, some n ∈ ns.set id none → some n ∈ ns := fun n hn => by
  rcases List.mem_or_eq_of_mem_set hn with h | h
  ·exact h
  ·cases h
 refine ⟨h.inv.mono fun i _ _ => ?_, h.tv, h.tx, fun n hn => h.ok n (hm n hn), fun n hn => h.nv n (hm n hn)⟩;have := Zaa (st := st) (o := o) i hl;rw [Zgy ho] at this;simp only [Zj]; omega
theorem FH.keep {st s : Za} {t : Ze} {ns : List (Option Zb)} {id : Nat} {Y Y2 : List PtrD} (h : FH st t ns id Y) (hi : Inv s (t.all st ++ (ZF st (ns.set id none) ++ Y2))) (hr : Yy st s (t.all st ++ ZF st (ns.set id none))) : FH s t ns id Y2 := by
 obtain ⟨t1, t2, _, t4⟩ := h.tv.rows hr fun q hq => mem_append_left _ hq
 obtain ⟨n1, n2⟩ := QV h.nv hr fun q hq => mem_append_right _ hq
 exact ⟨by rw [t2, n1]; exact hi, t1, t4.trans h.tx, h.ok, n2⟩
theorem FH.worked {st : Za} {t y : Ze} {ns : List (Option Zb)} {id : Nat} {R : List PtrD} (h : FH st t ns id (y.all st ++ R)) : Inv st (y.all st ++ (t.all st ++ (ZF st (ns.set id none) ++ R))) := h.inv.mono fun i _ _ => by simp only [Zj]; omega
structure FB (st : Za) (t : Ze) : Prop where
  ok : st.ok = true
  tv : TV st t
theorem tv0 {st : Za} (h : st.ok = true) : TV st tree0 :=
  ⟨⟨Int.le_refl _, by decide⟩, rfl, Wf.zero (by have := (Za.ok_spec h).txg; omega) _, fun j _ => by
    show ((lvL st 0 PtrD.zero).getD j PtrD.zero).hole = true;rw [show lvL st 0 PtrD.zero = [PtrD.zero] from rfl]
    cases j <;> rfl⟩
theorem ZmG {st : Za} {t : Ze} {R : List PtrD} {r : UY} (h : TV st t) (hp : ZmF st t R r) : FB r.st r.t := by
 refine ⟨hp.inv.ok, ?_⟩;rcases hp.t with e | e
 ·rw [e]; exact (h.rows hp.kp.rows fun q hq => mem_append_left _ hq).1
 ·rw [e]; exact tv0 hp.inv.ok
theorem FH.put {st : Za} {t : Ze} {ns : List (Option Zb)} {id : Nat} {R : List PtrD} {n : Zb} (h : FH st t ns id (n.ah.all st ++ R)) (hv : TV st n.ah) (hid : id < 16) (hl : ns.length = 16) (hsz : (Yb n).size ≤ 128) (he : n.ok = false → Yb n = ByteArray.empty) :
  ((XK st t (t.ps st) id (Yb n)).ok = true → FS (XK st t (t.ps st) id (Yb n)).st (XK st t (t.ps st) id (Yb n)).t (ns.set id (if n.ok = true then some n else none)) R ∧ (XK st t (t.ps st) id (Yb n)).t.ai = max t.ai ((id : Int) + 1)) ∧
  ((XK st t (t.ps st) id (Yb n)).ok = false → FB (XK st t (t.ps st) id (Yb n)).st (XK st t (t.ps st) id (Yb n)).t) := by
 obtain ⟨p1, p2⟩ := Zex (k := id) h.inv h.tv hid hsz;refine ⟨fun hk => ?_, fun hk => ZmG h.tv (p2 hk)⟩;have hp := p1 hk;generalize XK st t (t.ps st) id (Yb n) = r at hp;have hr := hp.kp.rows;obtain ⟨n1, n2⟩ := QV h.nv hr fun q hq => mem_append_left _ hq
 obtain ⟨y1, y2, _⟩ := hv.rows hr fun q hq => mem_append_right _ (mem_append_left _ hq)
 have hmem : ∀ m o, some m ∈ ns.set id o → some m ∈ ns.set id none ∨ o = some m := fun m o hm => by
  obtain ⟨j, hj, e⟩ := List.getElem_of_mem hm;rw [length_set] at hj;rw [List.getElem_set] at e
  split at e
  ·exact .inr e
  ·left
   refine List.mem_iff_getElem.2 ⟨j, by rw [length_set]; exact hj, ?_⟩;rw [List.getElem_set, if_neg (by assumption)]; exact e
 refine ⟨⟨hp.inv.mono fun i _ _ => ?_, hp.tv, ?_, fun m hm => ?_, fun m hm => ?_⟩, hp.many⟩
 ·have h1 := Zaa (st := r.st) (ns := ns) (id := id) (o := if n.ok = true then some n else none) i (by omega)
  have h2 : cnt (ZF r.st [if n.ok = true then some n else none]) i ≤ cnt (n.ah.all st) i := by
   split
   ·rw [Ut, y2]; exact Nat.le_refl _
   ·rw [Vq, Jv]; omega
  rw [n1] at h1;simp only [Zj]; omega
 ·rw [hp.tx, h.tx, List.map_set]
  congr 1
  split
  ·rfl
  ·rename_i e; exact he (by simpa using e)
 ·rcases hmem m _ hm with h1 | h1
  ·exact h.ok m h1
  ·split at h1
   ·rename_i e; cases h1; exact e
   ·cases h1
 ·rcases hmem m _ hm with h1 | h1
  ·exact n2 m h1
  ·split at h1
   ·cases h1; exact y1
   ·cases h1
end Go.Proofs.YtfhdmfcfcgbgeaaGreatDoor
