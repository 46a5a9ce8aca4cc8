/- A part of the proof in YthnbgnjpbmnelaaGreatDoorTqX34. -/
import Derived.Lib.Bytealg
import Derived.Test.YthnbgnjpbmnelaaGreatDoorTqX24
namespace Go.Proofs.YthnbgnjpbmnelaaGreatDoor
open Go.Proofs.Tryz
open List (append_nil flatMap_cons flatMap_nil getD_eq_getElem?_getD length_append length_cons length_map length_nil length_singleton length_take map_cons mem_append mem_cons mem_cons_of_mem mem_cons_self mem_singleton nil_append)
open Option (getD_some)
set_option linter.unusedVariables false
set_option linter.unusedSimpArgs false
set_option maxHeartbeats 1000000
set_option maxRecDepth 100000
open Go.RowKit
theorem Zhs : ∀ a : List UInt8, Op.bytesLess a a = false
 | [] => rfl
 | x :: a => by
  unfold Op.bytesLess;rw [Zhs a]
  simp
theorem Zd0 : ∀ {a b c : List UInt8}, Op.bytesLess a b = true → Op.bytesLess b c = true → Op.bytesLess a c = true
 | _, y, [], _, h2 => by cases y <;> cases h2
 | x, [], _ :: _, h1, _ => by cases x <;> cases h1
 | [], _ :: _, _ :: _, _, _ => rfl
 | x :: a, y :: b, z :: c, h1, h2 => by
  unfold Op.bytesLess at h1 h2 ⊢;simp only [Bool.or_eq_true, Bool.and_eq_true, decide_eq_true_eq, beq_iff_eq] at h1 h2 ⊢;rcases h1 with h1 | ⟨h1, h3⟩
  ·rcases h2 with h2 | ⟨h2, h4⟩
   ·exact .inl (UInt8.lt_trans h1 h2)
   ·exact .inl (h2 ▸ h1)
  ·rcases h2 with h2 | ⟨h2, h4⟩
   ·exact .inl (h1 ▸ h2)
   ·exact .inr ⟨h1.trans h2, Zd0 h3 h4⟩
theorem Zfq {l : List Zb} (h : YE l = true) : ∀ {j i : Nat}, i < j → j < l.length → Op.bytesLess (l.getD i Zb.zero).aD.toList (l.getD j Zb.zero).aD.toList = true
 | 0, i, hi, _ => absurd hi (Nat.not_lt_zero _)
 | j + 1, i, hi, hj => by
  have h1 := (Zho ((UC h).1 (j + 1) hj)).2.2.2;have h1 := h1.resolve_left (Nat.succ_ne_zero j);rw [Nat.add_sub_cancel] at h1
  by_cases e : i = j
  ·rw [e]; exact h1
  ·exact Zd0 (Zfq h (show i < j by omega) (by omega)) h1
def Znx (l : List Zb) (s : ByteArray) (o : Option Nat) : Prop := match o with
 | some i => i < l.length ∧ (l.getD i Zb.zero).aD = s
 | none => ∀ i, i < l.length → (l.getD i Zb.zero).aD ≠ s
theorem Zmi {l : List Zb} (h : YE l = true) {s : ByteArray} {o o' : Option Nat} (h1 : Znx l s o) (h2 : Znx l s o') : o = o' := by
 cases o with
 | none =>
  cases o' with
  | none => rfl
  | some j => exact absurd h2.2 (h1 j h2.1)
 | some i =>
  cases o' with
  | none => exact absurd h1.2 (h2 i h1.1)
  | some j =>
   have hne : ∀ {a b : Nat}, a < b → b < l.length → (l.getD a Zb.zero).aD = s → (l.getD b Zb.zero).aD = s → False := fun {a b} hab hb ha hb2 => by
    have := Zfq h hab hb;rw [ha, hb2, Zhs] at this; cases this
   rcases Nat.lt_trichotomy i j with hij | hij | hij
   ·exact (hne hij h2.1 h1.2 h2.2).elim
   ·rw [hij]
   ·exact (hne hij h1.1 h2.2 h1.2).elim
open Classical in
noncomputable def Qp (l : List Zb) (s : ByteArray) : Option Nat := if h : ∃ i, i < l.length ∧ (l.getD i Zb.zero).aD = s then some (Classical.choose h) else none
theorem ZbK (l : List Zb) (s : ByteArray) : Znx l s (Qp l s) := by
 unfold Qp
 split
 ·rename_i h
  exact Classical.choose_spec h
 ·rename_i h
  exact fun i hi e => h ⟨i, hi, e⟩
theorem Zd1 {l : List Zb} (h : YE l = true) {s : ByteArray} {o : Option Nat} (h1 : Znx l s o) : Qp l s = o := Zmi h (ZbK l s) h1
noncomputable def findN (st : Za) (ns : List (Option Zc)) : List ByteArray → Nat → Option Nat
 | [], k => some k
 | s :: r, k => match Qp (entK st ns k) s with
  | none => none
  | some i => findN st ns r ((entK st ns k).getD i Zb.zero).aG.toNat
theorem UD (st : Za) (ns : List (Option Zc)) (k : Nat) : findN st ns [] k = some k := rfl
theorem UE {st : Za} {ns : List (Option Zc)} {s : ByteArray} {r : List ByteArray} {k : Nat} (h : Qp (entK st ns k) s = none) : findN st ns (s :: r) k = none := by unfold findN; rw [h]
theorem UF {st : Za} {ns : List (Option Zc)} {s : ByteArray} {r : List ByteArray} {k i : Nat} (h : Qp (entK st ns k) s = some i) : findN st ns (s :: r) k = findN st ns r ((entK st ns k).getD i Zb.zero).aG.toNat := by
 conv => lhs; unfold findN
 rw [h]
def wg : Nat → Nat
 | 0 => 1
 | n + 1 => 1 + 4 * wg n
theorem Zau {f g : PtrD → List PtrD} : ∀ {l : List PtrD}, (∀ q ∈ l, f q = g q) → l.flatMap f = l.flatMap g
 | [], _ => rfl
 | p :: r, h => by rw [flatMap_cons, flatMap_cons, h p (mem_cons_self ..), Zau fun q hq => h q (mem_cons_of_mem _ hq)]
theorem Rd.dropP {α : Type} {enc : α → List Value} {size : Nat} {w : World} {g off n : Nat} {xs : List α} (h : Rd enc size w (some ⟨g, off, none⟩) n xs) {k : Nat} (hk : k ≤ n) : Rd enc size w (some ⟨g, off + k * size, none⟩) (n - k) (xs.drop k) := by
 have hl := h.len;refine ⟨by rw [List.length_drop]; omega, fun i hi => ?_⟩;rw [List.length_drop] at hi;obtain ⟨b, o, x, hx, ha, hb, hr⟩ := h.at_ (k + i) (by omega);simp only [Option.some.injEq, Addr.mk.injEq, and_true] at ha;obtain ⟨rfl, rfl⟩ := ha;refine ⟨g, off + k * size, x, by rw [List.getElem?_drop]; exact hx, rfl, hb, ?_⟩;rw [Nat.add_assoc, ← Nat.add_mul];exact hr
noncomputable def Zmj (st : Za) (p : PtrD) : List PtrD := allL st p.aq.toNat p
theorem Zde {st : Za} {n : Nat} {p : PtrD} (h : Wf st n p) : Zmj st p = allL st n p := by
 unfold Zmj
 cases hh : p.hole with
 | true => rw [ZT hh, ZT hh]
 | false => rw [h.level hh]; rfl
def mz : List PtrD → Nat
 | [] => 0
 | p :: r => (bif p.hole then 1 else wg p.aq.toNat) + mz r
theorem Zmk : ∀ n, 1 ≤ wg n
 | 0 => Nat.le_refl _
 | n + 1 => by show 1 ≤ 1 + 4 * wg n; omega
theorem Ziy : ∀ a b : List PtrD, mz (a ++ b) = mz a + mz b
 | [], b => by simp [mz]
 | p :: r, b => by
  show _ + mz (r ++ b) = _ + mz r + mz b;rw [Ziy r b]; omega
theorem Zgh {st : Za} {n : Nat} : ∀ {l : List PtrD}, (∀ q ∈ l, Wf st n q) → mz l ≤ l.length * wg n
 | [], _ => Nat.zero_le _
 | p :: r, h => by
  have ih := Zgh fun q hq => h q (mem_cons_of_mem _ hq)
  have hw := h p (mem_cons_self ..);have h1 : (bif p.hole then 1 else wg p.aq.toNat) ≤ wg n := by
   cases hh : p.hole with
   | true => exact Zmk n
   | false => rw [hw.level hh]; exact Nat.le_refl _
  show (bif p.hole then 1 else wg p.aq.toNat) + mz r ≤ (r.length + 1) * wg n;rw [Nat.succ_mul]; omega
theorem Zml : ∀ l : List PtrD, l.length ≤ mz l
 | [] => Nat.le_refl _
 | p :: r => by
  have := Zml r;have h1 : 1 ≤ (bif p.hole then 1 else wg p.aq.toNat) := by
   cases p.hole
   ·exact Zmk _
   ·exact Nat.le_refl _
  show r.length + 1 ≤ _ + mz r
  omega
structure QG (st : Za) (A os ts : List PtrD) : Prop where
  sum : os ++ ts.flatMap (Zmj st) = A
  wf : ∀ p ∈ ts, ∃ n, n ≤ 2 ∧ Wf st n p
  room : os.length + mz ts ≤ 21
theorem QG.start {st : Za} {n : Nat} {p : PtrD} (hn : n ≤ 2) (h : Wf st n p) : QG st (allL st n p) [] [p] := by
 refine ⟨?_, fun q hq => ⟨n, hn, by rw [mem_singleton.1 hq]; exact h⟩, ?_⟩
 ·rw [nil_append, flatMap_cons, flatMap_nil, append_nil, Zde h]
 ·have h1 := Zgh (l := [p]) (n := n) fun q hq => by rw [mem_singleton.1 hq]; exact h
  have h2 : wg n ≤ 21 := by rcases (by omega : n = 0 ∨ n = 1 ∨ n = 2) with e | e | e <;> rw [e] <;> decide
  rw [length_singleton, Nat.one_mul] at h1;show 0 + mz [p] ≤ 21
  omega
theorem QG.done {st : Za} {A os : List PtrD} (h : QG st A os []) : os = A := by
 have := h.sum
 rwa [flatMap_nil, append_nil] at this
section
variable {st : Za} {A os r : List PtrD} {p : PtrD}
theorem QG.tail (h : QG st A os (p :: r)) : ∀ q ∈ ([] ++ r : List PtrD), ∃ n, n ≤ 2 ∧ Wf st n q := fun q hq => h.wf q (mem_cons_of_mem _ (by simpa using hq))
theorem QG.hole (h : QG st A os (p :: r)) (hh : p.hole = true) : QG st A os ([] ++ r) ∧ mz ([] ++ r) < mz (p :: r) := by
 have h1 := h.sum;have h2 := h.room;have e : mz (p :: r) = 1 + mz r := by show (bif p.hole then 1 else wg p.aq.toNat) + mz r = _; rw [hh]; rfl
 refine ⟨⟨?_, h.tail, ?_⟩, ?_⟩
 ·rw [nil_append, ← h1, flatMap_cons, show Zmj st p = [] from ZT hh _, nil_append]
 ·rw [nil_append]; omega
 ·rw [nil_append]; omega
theorem QG.leaf (h : QG st A os (p :: r)) (hh : p.hole = false) (hl : ¬ 0 < p.aq) : QG st A (os ++ [p]) ([] ++ r) ∧ mz ([] ++ r) < mz (p :: r) := by
 have h1 := h.sum;have h2 := h.room;obtain ⟨n, hn, hw⟩ := h.wf p (mem_cons_self ..);have hl2 := hw.level hh;obtain rfl : n = 0 := by omega
 have e : mz (p :: r) = 1 + mz r := by show (bif p.hole then 1 else wg p.aq.toNat) + mz r = _; rw [hh, hl2]; rfl
 refine ⟨⟨?_, h.tail, ?_⟩, ?_⟩
 ·rw [nil_append, ← h1, flatMap_cons, Zde hw, Qn hh, List.append_assoc]
 ·rw [nil_append, length_append, length_singleton]; omega
 ·rw [nil_append]; omega
theorem QG.below (h : QG st A os (p :: r)) (hh : p.hole = false) (hl : 0 < p.aq) : ∃ n l, n + 1 ≤ 2 ∧ p.aq = ((n + 1 : Nat) : Int) ∧ kidsS st p p.aq = some l ∧ kids st p ((n + 1 : Nat) : Int) = some l ∧ ∀ q ∈ l, Wf st n q := by
 obtain ⟨n, hn, hw⟩ := h.wf p (mem_cons_self ..);have hl2 := hw.level hh
 match n, hw, hl2, hn with
 | 0, _, hl2, _ => omega
 | n + 1, hw, hl2, hn =>
  obtain ⟨hp, hb, l, hk, hq⟩ := hw;exact ⟨n, l, hn, hl2, by rw [JI hp hb, hl2]; exact hk, hk, hq⟩
theorem QG.kids (h : QG st A os (p :: r)) (hh : p.hole = false) (hl : 0 < p.aq) {l : List PtrD} (hk : kidsS st p p.aq = some l) : QG st A (os ++ [p]) (([] ++ l) ++ ([] ++ r)) ∧ mz (([] ++ l) ++ ([] ++ r)) < mz (p :: r) := by
 obtain ⟨n, m, hn, hl2, hk2, hk3, hq⟩ := h.below hh hl;rw [hk] at hk2;obtain rfl := Option.some.inj hk2;have h1 := h.sum;have h2 := h.room;have hw : Wf st (n + 1) p := by
  obtain ⟨k, _, hw⟩ := h.wf p (mem_cons_self ..);have := hw.level hh;obtain rfl : k = n + 1 := by omega
  exact hw
 have e : mz (p :: r) = (1 + 4 * wg n) + mz r := by show (bif p.hole then 1 else wg p.aq.toNat) + mz r = _; rw [hh, hl2]; rfl
 have hm := Zgh hq;rw [VI hk3] at hm;refine ⟨⟨?_, fun q hx => ?_, ?_⟩, ?_⟩
 ·have e2 : l.flatMap (Zmj st) = l.flatMap (allL st n) := Zau fun q hx => Zde (hq q hx)
  rw [← h1, flatMap_cons, Zde hw, YP hh hk3];simp [List.flatMap_append, e2]
 ·rw [nil_append, nil_append] at hx
  rcases mem_append.1 hx with hx | hx
  ·exact ⟨n, by omega, hq q hx⟩
  ·exact h.wf q (mem_cons_of_mem _ hx)
 ·rw [nil_append, nil_append, Ziy, length_append, length_singleton]; omega
 ·rw [nil_append, nil_append, Ziy]; omega
end
section
variable {P : Program} {o : Oper} {a : Act} {w : World} {e : TypeId}
def loA (g off k size cap : Nat) : Option Addr := some ⟨g, if cap = k then off else off + k * size, none⟩
theorem Ue {t : TypeId} {x y : Operand} (ho : o.op = .slice t x (some y) none none) {g off n cap : Nat} (hx : a.eval x = .slice (some ⟨g, off, none⟩) n cap) {kk : IntKind} {m : Int} (hy : a.eval y = .int kk m) {size : Nat} (hu : Yv P t = some (e, size)) {k : Nat} (hm : m = (k : Int)) (hk : k ≤ n) (hc : n ≤ cap) : Yl P w o a (.slice (loA g off k size cap) (n - k) (cap - k)) := by
 by_cases h : k < cap
 ·have e1 : loA g off k size cap = some ⟨g, off + k * size, none⟩ := by unfold loA; rw [if_neg (by omega)]
  rw [e1];exact Zdz ho hx hy hu hm hk h
 ·have e1 : loA g off k size cap = some ⟨g, off, none⟩ := by unfold loA; rw [if_pos (by omega)]
  rw [e1];unfold Yv at hu
  split at hu
  ·rename_i e' hu'
   split at hu
   ·rename_i inf hq
    subst hm;obtain rfl : cap = k := by omega
    obtain rfl : n = cap := by omega
    unfold Yl execOp;simp only [ho, hx, hy, Option.map_some, Option.map_none, Instr.sliceAt, Instr.slice, Sem.run_bind, run_underlying hu' w, Result.andThen_ok];simp [Instr.slice, Instr.sliceBounds, Instr.sliceBound, asIntOf, go_sem, run_underlying hu' w, sizeOf, typeInfo, hq]
   ·cases hu
  ·cases hu
theorem Zgi {α : Type} {enc : α → List Value} {size g off n k cap : Nat} {xs : List α} (h : Rd enc size w (some ⟨g, off, none⟩) n xs) (hk : k ≤ n) (hc : n ≤ cap) : Rd enc size w (loA g off k size cap) (n - k) (xs.drop k) := by
 have hl := h.len
 by_cases e : k < cap
 ·rw [show loA g off k size cap = some ⟨g, off + k * size, none⟩ by unfold loA; rw [if_neg (by omega)]]
  exact h.dropP hk
 ·rw [List.drop_eq_nil_of_le (by omega), show n - k = 0 by omega]
  exact V2 _ _ _ _
end
theorem Zkn (a0 : Option Addr) (c0 : Nat) (a1 : Option Addr) (c1 : Nat) (a2 : Option Addr) (c2 : Nat) (a4 : Option Addr) (c4 : Nat) (a6 : Option Addr) (c6 : Nat) (st : Za) (t : Zd) (w0 : World) (hR : Rd Zt 1 w0 a0 st.ac.length st.ac) (hrow : Xg st) (hwf : Wf st (depthN t.ah) t.af) : Calls prog 328 #[sV a0 c0 a1 c1 a2 c2 a4 c4 a6 c6 st, tV t] w0 fun e w' => ∃ ao cp, e = .returned (.slice ao (allL st (depthN t.ah) t.af).length cp) ∧ St w0 [Zg PtrD.cells 5 40 (.slice ao (allL st (depthN t.ah) t.af).length cp) (allL st (depthN t.ah) t.af)] w' := by
 have HR := Bx.mk hR; clear hR;have E := Bx.mk (St.start w0);refine ent func328 ntmps328 ?_;refine xsr ?_;refine ybx E ?_;clear E;intro w1 b1 E;refine ybx E ?_;clear E;intro w2 b2 E;refine xr 1 rfl<|xne<|xsr ?_;refine yem 40 5 E ?_;clear E;intro w3 b3 E;refine xr 1 rfl<|xne<|xsr<|Xf 0 rfl<|Xw 0 5 E rfl rfl ?_;refine ybs PtrD.cells 40 5 [t.af] E ?_;clear E;intro b4 w4 E;refine xr 1 rfl<|xne<|xsq<|xbl ?_;replace E := Bx.mk (E.o.nilRow PtrD.cells 5 40 (some ⟨b3, 0, none⟩));replace E:=E.pks [1,1];intro a J;refine Zs (ι := Nat) (fun n a w => ∃ (ao : Option Addr) (cp : Nat) (os : List PtrD) (at_ : Option Addr) (ct : Nat) (ts : List PtrD), (QG st (allL st (depthN t.ah) t.af) os ts ∧ mz ts = n) ∧ Fr 47 a [(0, sV a0 c0 a1 c1 a2 c2 a4 c4 a6 c6 st), (1, tV t), (2, .pointer (some ⟨b1, 0, none⟩)), (3, .pointer (some ⟨b2, 0, none⟩)), (4, .slice none 0 0), (5, .slice ao os.length cp), (6, .slice at_ ts.length ct)] ∧ St w0 ([Zg PtrD.cells 5 40 (.slice ao os.length cp) os, Zg PtrD.cells 5 40 (.slice at_ ts.length ct) ts, boxA b2 7 42 (tV t), boxA b1 8 39 (sV a0 c0 a1 c1 a2 c2 a4 c4 a6 c6 st)]) w) (fun n => n) (mz [t.af]) ⟨_, _, [], _, _, [t.af], ⟨QG.start (YK _) hwf, rfl⟩, J.ls _, E.o⟩ ?_;clear J E; clear a;rintro n a w5 ⟨ao, cp, os, at_, ct, ts, ⟨hall, hmz⟩, J, E⟩;replace E := Bx.mk E;have hroom := hall.room; have htl := Zml ts;revert a;refine xsq<|xsr<|xr 1 rfl<|xy rfl (vn 40 5 rfl)<|xr 1 rfl<|xne<|xcd 16 rfl (fun _ dcc1=>?_) fun _ dcc1=>?_
 refine xct rfl<|xsk<|xet<|xbl<|xsq ?_;obtain ⟨p, r, rfl⟩ : ∃ p r, ts = p :: r := by cases ts with | nil => exact absurd (by assumption : (0 : Int) < ((([] : List PtrD).length : Nat) : Int)) (by simp) | cons p r => exact ⟨p, r, rfl⟩
 have hrl : (p :: r).length = r.length + 1 := rfl;obtain ⟨g5, rfl, _, _, _, _⟩ := E.o.rowOpen 1 rfl (by omega);have hcap := E.o.capLe 1 rfl;refine xrl<|xr 1 rfl<|xy rfl (vx 40 0 5 rfl)<|xy rfl (fun a J=>ylr (cs := pL p) rfl (J.ev rfl) (E.o.elem PtrD.cells_len 1 rfl (show (p :: r)[0]? = some _ from rfl))) ?_;refine yal z5 E ?_;clear E;intro w6 b6 E;refine yst E 0 ?_;clear E;intro w7 E;replace E:=E.nm;refine xne<|xsr ?_;refine yem 40 5 E ?_;clear E;intro w8 b7 E;refine xr 1 rfl<|xy rfl (fun a J=>Ue (e := 40) (size := 5) (k := 1) rfl (J.ev rfl) (J.ev rfl) (by kernel_rfl) rfl (by omega) hcap) ?_;replace E := Bx.mk (E.o.nilRow PtrD.cells 5 40 (some ⟨b7, 0, none⟩));intro a J;refine Xo rfl J rfl rfl rfl (J.ev rfl) (J.ev rfl) Xe PtrD.cells_len E.o 0 (xs := []) rfl (ys := r) (Zgi (k := 1) (St.rdOf E.o PtrD.cells_len 3 rfl) (by omega) hcap) (Zx _) (by unfold maxLen; (try simp only [length_append, length_cons, length_nil, nil_append, length_map]); omega) (by (try simp only [length_append, length_cons, length_nil, nil_append, length_map]); omega) ?_; clear J E a; intro ao9 cp10 w9 a J E; replace E := Bx.mk E;revert a;refine xr 1 rfl<|xne<|xsq<|xsr<|Xw 1 5 E rfl rfl ?_;refine ycB (Zy p _) func100 E ?_;clear E;intro w10 E;refine xne<|xcs 25 rfl (fun cc2=>?_) fun cc2=>?_;have hph := cc2;refine xct rfl<|xex<|xtx<|xbh<|xet ?_;have hz11 : ([] : List PtrD).length + r.length = (([]) ++ r).length := by simp only [length_append, length_nil, length_cons]
 intro a J;rw [hz11] at E J;obtain ⟨hnew, hlt⟩ := hall.hole hph;replace E:=E.pks [5,5,2,4];exact ⟨_, ⟨_, _, _, _, _, _, ⟨hnew, rfl⟩, J.ls _, (E.o.erS [5,4])⟩, (by omega)⟩;have hph := cc2;refine xcf rfl<|xsk<|xet<|xsr<|xr 1 rfl<|Xw 1 5 E rfl rfl ?_;refine ybs PtrD.cells 40 5 [p] E ?_;clear E;intro b12 w11 E;refine yap Xe PtrD.cells_len E 3 (St.rdN E.o PtrD.cells_len 0 rfl) (Zx _) ?_;clear E;intro ao13 cp14 w12 E;refine xr 1 rfl<|xne<|xsr<|Xf 4 rfl<|Xl 2 E rfl rfl<|xr 1 rfl<|xne<|xcd 32 rfl (fun _ dcc3=>?_) fun _ dcc3=>?_;refine xct rfl<|xsr<|Xw 6 8 E rfl rfl<|Xw 2 5 E rfl rfl<|Xf 4 rfl<|Xl 2 E rfl rfl ?_;refine yc (Uc a0 c0 a1 c1 a2 c2 a4 c4 a6 c6 st p p.aq _ (HR.out.below E.o.bel) hrow) func169 ?_;rintro _ w13 (⟨l15, hk15, ao15, cp15, rfl, hs1⟩ | ⟨hk15, ao15, nn15, cp15, rfl, hb⟩);have hll15 := XW hk15;refine ⟨_, rfl, ?_⟩; replace E := E.ad hs1;clear hs1;refine xr 5 rfl<|xne<|xrl ?_;refine yem 40 5 E ?_;clear E;intro w14 b16 E;refine xr 1 rfl ?_;replace E := Bx.mk (E.o.nilRow PtrD.cells 5 40 (some ⟨b16, 0, none⟩));refine yap Xe PtrD.cells_len E 0 (St.rdOf E.o PtrD.cells_len 1 rfl) (Zx _) ?_;clear E;intro ao18 cp19 w15 E;refine xr 1 rfl ?_;refine yap Xe PtrD.cells_len E 0 (St.rdN E.o PtrD.cells_len 3 rfl) (Zx _) ?_;clear E;intro ao20 cp21 w16 E;refine xr 1 rfl<|xni<|xeb<|xet ?_;have hz22 : os.length + ([p]).length = (os ++ ([p])).length := by simp only [length_append, length_nil, length_cons]
 intro a J;rw [hz22] at E J;have hz23 : (([] : List PtrD) ++ l15).length + (([] : List PtrD) ++ r).length = ((([]) ++ l15) ++ (([]) ++ r)).length := by simp only [length_append, length_nil, length_cons]
 rw [hz23] at E J;obtain ⟨hnew, hlt⟩ := hall.kids hph (by omega) hk15;replace E:=E.pks [8,8,2,7];exact ⟨_, ⟨_, _, _, _, _, _, ⟨hnew, rfl⟩, J.ls _, (E.o.erS [8,7,6,5,4])⟩, (by omega)⟩;obtain ⟨_, _, _, _, hks, _⟩ := hall.below hph (by omega); rw [hks] at hk15; cases hk15;refine xcf rfl<|xsk<|xeb<|xet ?_;have hz24 : os.length + ([p]).length = (os ++ ([p])).length := by simp only [length_append, length_nil, length_cons]
 intro a J;rw [hz24] at E J;have hz25 : ([] : List PtrD).length + r.length = (([]) ++ r).length := by simp only [length_append, length_nil, length_cons]
 rw [hz25] at E J;obtain ⟨hnew, hlt⟩ := hall.leaf hph (by omega);replace E:=E.pks [6,6,3,5];exact ⟨_, ⟨_, _, _, _, _, _, ⟨hnew, rfl⟩, J.ls _, (E.o.erS [6,5,4])⟩, (by omega)⟩;refine xcf rfl<|xex<|xtx<|xtx<|xbh<|xet<|xsr<|xr 2 rfl<|xne<|xre<|xb1 results328 rfl ?_;obtain rfl : ts = [] := by cases ts with | nil => rfl | cons p r => exact absurd (by assumption : ¬ (0 : Int) < (((p :: r).length : Nat) : Int)) (by simp)
 have hA := hall.done; subst hA;exact ⟨_, _, rfl, (E.o.erS [3,2,1])⟩
theorem Zko {n : Zc} (h : n.ok = true) : Yp n ≠ ByteArray.empty := fun e => by
 have := (X4 h).is;rw [e] at this;have h2 : (ZU (Ua n)).data.toList = [] := by rw [this]; rfl
 exact Zf0 _ _ h2
theorem Zd2 {st : Za} {p : PtrD} {o : Option Zc} {n : Zc} (h : Zhm st p o) (hn : n.ok = true) (hb : Yp n = Zm st p) : o = some n := by
 rcases h with ⟨hh, _⟩ | ⟨_, m, rfl, hm, _⟩
 ·rw [Y1 hh] at hb; exact absurd hb (Zko hn)
 ·rw [Zac hn hb] at hm; exact hm.symm
theorem Zd3 {st : Za} {p : PtrD} {o : Option Zc} (h : Zhm st p o) (hn : ∀ n : Zc, n.ok = true → Yp n = Zm st p → False) : o = none := by
 rcases h with ⟨_, rfl⟩ | ⟨_, m, rfl, hm, _⟩
 ·rfl
 ·have := ZdN hm; exact (hn m this.1 this.2).elim
theorem ZcR : Ur prog 306 312 2 24 := by
 obtain ⟨i0, hi, hz0, hz1, hz2⟩ := info_parts (P := prog) (e := 312) (z := .agg #[.string ByteArray.empty, .int .i64 0]) (size := 2) (bytes := 24) (by kernel_rfl);exact ⟨Tryz.underlying306, ⟨i0, _, hi, hz0, hz1, hz2, rfl⟩, by decide⟩
theorem Xj (xs : List Zb) : ∀ u ∈ xs.flatMap Zb.cells, u.oneCell' = true := by
 intro u hu;obtain ⟨x, _, hx⟩ := List.mem_flatMap.1 hu;simp only [Zb.cells, mem_cons, List.not_mem_nil, or_false] at hx;rcases hx with rfl | rfl <;> rfl
section
variable {P : Program} {w : World} {o : Oper} {a : Act} {t t' : TypeId} {x y : Operand}
theorem Zny (ho : o.op = .binOp .geq t x y t') {m n : ByteArray} (hx : a.eval x = .string m) (hy : a.eval y = .string n) : Yl P w o a (.bool !(Op.bytesLess m.toList n.toList)) := by simp [Yl, execOp, ho, hx, hy, eqGuard, binOp, Op.stringOp]
end
theorem UG {l : List Zb} {i : Nat} (h : i < l.length) : l.getD i Zb.zero ∈ l := by
 rw [getD_eq_getElem?_getD, List.getElem?_eq_getElem h]; exact List.getElem_mem _
def ZbL (l : List Zb) : Prop := ∀ e ∈ l, e.aD.size ≤ 1000000
theorem ZbL.at_ {l : List Zb} (h : ZbL l) (i : Nat) : (l.getD i Zb.zero).aD.size ≤ 1000000 := by
 by_cases hi : i < l.length
 ·exact h _ (UG hi)
 ·rw [getD_eq_getElem?_getD, List.getElem?_eq_none (by omega)]; exact Nat.zero_le _
theorem Ziz {l : List Zb} (h : ∀ j, j < l.length → X5 l j = true) : YE l = decide ((l.length : Int) ≤ 12) := by
 unfold YE;rw [decide_eq_true h, Bool.true_and]
 by_cases hl : l.length ≤ 12
 ·rw [decide_eq_true hl, decide_eq_true (by omega)]
 ·rw [decide_eq_false hl, decide_eq_false (by omega)]
theorem Zht {l : List Zb} {i : Nat} (h : ∀ j, j < i → X5 l j = true) (ha : X5 l i = true) : ∀ j, j < i + 1 → X5 l j = true := fun j hj => by
 by_cases e : j = i
 ·rw [e]; exact ha
 ·exact h j (by omega)
theorem ZbM (ao : Option Addr) (cp : Nat) (es : List Zb) (w0 : World) (hfit : ZbL es) (hlen : es.length ≤ 1000000) (hr : Rd Zb.cells 2 w0 ao es.length es) : Calls prog 351 #[.slice ao es.length cp] w0 fun e w' => e = .returned (.bool (YE es)) ∧ Below w0.heap.size w0 w' := by
 obtain ⟨g, o, r0⟩ := hr.opn; have RE := Bx.mk r0; clear r0 hr;have E := Bx.mk (St.start w0);refine ent func351 ntmps351 ?_;refine xsr<|xr 1 rfl<|xne<|xsq<|xsr<|xr 1 rfl<|xne<|xbl ?_;intro a J;refine Zs (ι := Nat) (fun i a w => (i ≤ es.length ∧ ∀ j, j < i → X5 es j = true) ∧ Fr 47 a [(0, .slice ao es.length cp), (3, .int .i64 (i : Int))] ∧ St w0 ([]) w) (fun i => es.length - i) 0 ⟨⟨Nat.zero_le _, fun j hj => absurd hj (Nat.not_lt_zero _)⟩, J.ls _, E.o⟩ ?_;clear J E; clear a;rintro i a w1 ⟨⟨hi, hall⟩, J, E⟩;replace E := Bx.mk E;revert a;refine xsq<|xsr<|xr 2 rfl<|xy rfl (vn 312 2 rfl)<|xr 1 rfl<|xne<|xcd 7 rfl (fun _ dcc1=>?_) fun _ dcc1=>?_
 refine xct rfl<|xsk<|xet<|xsq<|xbl<|xsq ?_;intro a J;refine Yi (by kernel_rfl) (by kernel_rfl) E.o ?_;revert a;refine xqr 2 rfl<|xq rfl (fun E=>vxr 312 i 2 rfl (RE.out.ao i (by omega)))<|Qf 0 rfl<|xq rfl (fun E a J=>ylo (v := .string ((es.getD i Zb.zero).aD)) rfl (J.ev rfl) (RE.out.elem E (Zh (xs := es) (j := i) (d := Zb.zero) (by omega)) 0 _ rfl)) ?_;refine yq (fun _ E => Vy ((es.getD i Zb.zero).aD) _ (Nat.le_trans (hfit.at_ _) (by decide))) func311 ?_;refine xqr 2 rfl<|xcs 17 rfl (fun cc2=>?_) fun cc2=>?_;refine xqr 26 rfl ?_;intro a J;refine wpQuiet_nil ?_; intro w2 E; replace E := Bx.mk E;revert a;refine xet<|xct rfl<|xsr<|xr 1 rfl<|xne<|xre<|xbr<|xtr<|xtr<|xbr<|xtr<|xb1 results351 rfl ?_;exact ⟨by rw [Zce (i := i) (by omega) (Ziu (by simpa using cc2))] <;> rfl, E.o.bel⟩;refine xqr 2 rfl<|xq rfl (fun E=>vxr 312 i 2 rfl (RE.out.ao i (by omega)))<|Qf 1 rfl<|xq rfl (fun E a J=>ylo (v := .int .i64 ((es.getD i Zb.zero).aG)) rfl (J.ev rfl) (RE.out.elem E (Zh (xs := es) (j := i) (d := Zb.zero) (by omega)) 1 _ rfl)) ?_;refine yqg (fun _ E => ((Z2 ((es.getD i Zb.zero).aG) 1 15 _).mono fun _ _ h => ⟨h.1, h.2 ▸ Below.refl _ _⟩)) func34 ?_;refine xqr 3 rfl<|xcs 26 rfl (fun cc3=>?_) fun cc3=>?_;refine xqr 17 rfl ?_;intro a J;refine wpQuiet_nil ?_; intro w3 E; replace E := Bx.mk E;revert a;refine xet<|xct rfl<|xsr<|xr 1 rfl<|xne<|xre<|xbr<|xtr<|xtr<|xbr<|xtr<|xb1 results351 rfl ?_;exact ⟨by rw [Zce (i := i) (by omega) (Zmc (by simpa using cc3))] <;> rfl, E.o.bel⟩;refine xqr 3 rfl<|xcd 29 rfl (fun _ dcc4=>?_) fun _ dcc4=>?_;refine xqr 2 rfl<|xq rfl (fun E a J=>ZJ (r := ((i - 1 : Nat) : Int)) rfl (J.ev rfl) (J.ev rfl) ((Yb (by omega)).trans (by omega)))<|xq rfl (fun E=>vxr 312 (i - 1) 2 rfl (RE.out.ao (i - 1) (by omega)))<|Qf 0 rfl<|xq rfl (fun E a J=>ylo (v := .string ((es.getD (i - 1) Zb.zero).aD)) rfl (J.ev rfl) (RE.out.elem E (Zh (xs := es) (j := (i - 1)) (d := Zb.zero) (by omega)) 0 _ rfl))<|xqr 2 rfl<|xq rfl (fun E=>vxr 312 i 2 rfl (RE.out.ao i (by omega)))<|Qf 0 rfl<|xq rfl (fun E a J=>ylo (v := .string ((es.getD i Zb.zero).aD)) rfl (J.ev rfl) (RE.out.elem E (Zh (xs := es) (j := i) (d := Zb.zero) (by omega)) 0 _ rfl))<|xq rfl (fun E a J=>Zny rfl (J.ev rfl) (J.ev rfl))<|xqr 2 rfl ?_;intro a J;refine wpQuiet_nil ?_; intro w4 E; replace E := Bx.mk E;revert a;refine xet<|xcs 43 rfl (fun cc5=>?_) fun cc5=>?_
 refine xct rfl<|xsr<|xr 1 rfl<|xne<|xre<|xbr<|xtr<|xtr<|xbr<|xtr<|xb1 results351 rfl ?_;exact ⟨by rw [Zce (i := i) (by omega) (Ziv (by omega) (by simpa using cc5))] <;> rfl, E.o.bel⟩;refine xcf rfl<|xsk<|xeb<|xet<|xrl<|xr 1 rfl<|xy rfl (vad rfl)<|xr 1 rfl<|xne ?_;have hat : X5 es i = true := Zfg (by simpa using cc2) (by simpa using cc3) (.inr (by simpa using cc5));intro a J;exact ⟨(i + 1), ⟨⟨by omega, Zht hall hat⟩, J.less _ ⟨rfl, rfl, trivial⟩, E.o⟩, (by omega)⟩;refine xqr 14 rfl ?_;intro a J;refine wpQuiet_nil ?_; intro w5 E; replace E := Bx.mk E;revert a;refine xet<|xcf rfl<|xsk<|xeb<|xet<|xrl<|xr 1 rfl<|xy rfl (vad rfl)<|xr 1 rfl<|xne ?_;have hat : X5 es i = true := Zfg (by simpa using cc2) (by simpa using cc3) (.inl (by omega));intro a J;exact ⟨(i + 1), ⟨⟨by omega, Zht hall hat⟩, J.less _ ⟨rfl, rfl, trivial⟩, E.o⟩, (by omega)⟩;refine xcf rfl<|xex<|xtx<|xtx<|xbh<|xet<|xsr<|xr 1 rfl<|xy rfl (vn 312 2 rfl)<|xr 2 rfl<|xne<|xre<|xb1 results351 rfl ?_;exact ⟨by rw [Ziz fun j hj => hall j (by omega)] <;> rfl, E.o.bel⟩
theorem ZiA (l : List Zb) (e : Zb) : Qo (l ++ [e]) = (((Qo l ++ e.aD) ++ ⟨#[61]⟩) ++ ZF e.aG) ++ ⟨#[59]⟩ := by
 refine JR ?_;rw [ZaX, Zkj];simp only [Zz, ZaX];unfold JP ZdW
 simp
theorem Zd4 {l : List Zb} {k : Nat} (h : k < l.length) : Qo (l.take (k + 1)) = (((Qo (l.take k) ++ (l.getD k Zb.zero).aD) ++ ⟨#[61]⟩) ++ ZF (l.getD k Zb.zero).aG) ++ ⟨#[59]⟩ := by
 rw [List.take_succ_eq_append_getElem h, ZiA, getD_eq_getElem?_getD, List.getElem?_eq_getElem h]; rfl
theorem ZiB (ao : Option Addr) (cp : Nat) (es : List Zb) (w0 : World) (hok : YE es = true) (hr : Rd Zb.cells 2 w0 ao es.length es) : Calls prog 323 #[.slice ao es.length cp] w0 fun e w' => e = .returned (.string (Qo es)) ∧ Below w0.heap.size w0 w' := by
 obtain ⟨g, o, r0⟩ := hr.opn; have RE := Bx.mk r0; clear r0 hr; have h12 := (UC hok).2;have E := Bx.mk (St.start w0);refine ent func323 ntmps323 ?_;refine xsr<|xr 1 rfl<|xne<|xsr<|xr 1 rfl<|xne<|xsq<|xsr<|xr 1 rfl<|xne<|xbl ?_;intro a J;refine Zs (ι := Nat) (fun k a w => ∃ (tx : ByteArray), (k ≤ es.length ∧ tx = Qo (es.take k) ∧ tx.size ≤ 15 * k) ∧ Fr 28 a [(0, .slice ao es.length cp), (3, .string tx), (4, .int .i64 (k : Int))] ∧ St w0 ([]) w) (fun k => es.length - k) 0 ⟨⟨#[]⟩, ⟨Nat.zero_le _, rfl, Nat.le_refl _⟩, J.ls _, E.o⟩ ?_;clear J E; clear a;rintro k a w1 ⟨tx, ⟨hk, hq, hz⟩, J, E⟩;replace E := Bx.mk E;revert a;refine xsq<|xsr<|xr 2 rfl<|xy rfl (vn 312 2 rfl)<|xr 1 rfl<|xne<|xcd 8 rfl (fun _ dcc1=>?_) fun _ dcc1=>?_
 refine xct rfl<|xsk<|xet<|xsq<|xbl ?_;have hen := Y3 hok (UG (show k < es.length by omega)); have hnz := Zcf hen.1; have hdz : (Zw (es.getD k Zb.zero).aG.toNat).size ≤ 9 := JD (by omega);intro a J;refine Yi (by kernel_rfl) (by kernel_rfl) E.o ?_;revert a;refine xqr 3 rfl<|xq rfl (fun E=>vxr 312 k 2 rfl (RE.out.ao k (by omega)))<|Qf 0 rfl<|xq rfl (fun E a J=>ylo (v := .string ((es.getD k Zb.zero).aD)) rfl (J.ev rfl) (RE.out.elem E (Zh (xs := es) (j := k) (d := Zb.zero) (by omega)) 0 _ rfl))<|xq rfl (fun E a J=>ZB rfl (J.ev rfl) (J.ev rfl) (by (try simp only [Xc, Zk]); omega))<|xq rfl (fun E a J=>ZB rfl (J.ev rfl) (J.ev rfl) (by (try simp only [Xc, Zk]); omega))<|xqr 2 rfl<|xq rfl (fun E=>vxr 312 k 2 rfl (RE.out.ao k (by omega)))<|Qf 1 rfl<|xq rfl (fun E a J=>ylo (v := .int .i64 ((es.getD k Zb.zero).aG)) rfl (J.ev rfl) (RE.out.elem E (Zh (xs := es) (j := k) (d := Zb.zero) (by omega)) 1 _ rfl)) ?_;refine yq (fun _ E => YL ((es.getD k Zb.zero).aG) (by omega) (by omega) _) func134 ?_;refine xq rfl (fun E a J=>ZB rfl (J.ev rfl) (J.ev rfl) (by (try simp only [Xc, Zk]); omega))<|xq rfl (fun E a J=>ZB rfl (J.ev rfl) (J.ev rfl) (by (try simp only [Xc, Zk]); omega))<|xqr 1 rfl ?_;intro a J;refine wpQuiet_nil ?_; intro w2 E; replace E := Bx.mk E;revert a;refine xeb<|xet<|xrl<|xr 1 rfl<|xy rfl (vad rfl)<|xr 1 rfl<|xne ?_;have hnx : ((((tx ++ (es.getD k Zb.zero).aD) ++ (⟨#[61]⟩ : ByteArray)) ++ Zw (es.getD k Zb.zero).aG.toNat) ++ (⟨#[59]⟩ : ByteArray)) = Qo (es.take (k + 1)) := by rw [Zd4 (by omega), YH (by omega) (by omega), hq]
 have hnz2 : ((((tx ++ (es.getD k Zb.zero).aD) ++ (⟨#[61]⟩ : ByteArray)) ++ Zw (es.getD k Zb.zero).aG.toNat) ++ (⟨#[59]⟩ : ByteArray)).size ≤ 15 * (k + 1) := by simp only [Zk]; have : (⟨#[61]⟩ : ByteArray).size = 1 := rfl; have : (⟨#[59]⟩ : ByteArray).size = 1 := rfl; omega
 intro a J;exact ⟨(k + 1), ⟨((((tx ++ (es.getD k Zb.zero).aD) ++ (⟨#[61]⟩ : ByteArray)) ++ Zw (es.getD k Zb.zero).aG.toNat) ++ (⟨#[59]⟩ : ByteArray)), ⟨by omega, hnx, hnz2⟩, J.less _ ⟨rfl, rfl, rfl, trivial⟩, E.o⟩, (by omega)⟩;refine xcf rfl<|xex<|xtx<|xtx<|xbh<|xet<|xsr<|xr 2 rfl<|xne<|xre<|xb1 results323 rfl ?_;obtain rfl : k = es.length := by omega
 exact ⟨by rw [hq, List.take_length], E.o.bel⟩
def Zmm (e : Zb) : ByteArray := ⟨(ZdW e).toArray⟩
def ZiC (y : ByteArray) : Zb := ⟨(Ze y 61).getD 0 ByteArray.empty, Xh ((Ze y 61).getD 1 ByteArray.empty)⟩
theorem ZcS (s : ByteArray) (c : UInt8) (l : List ByteArray) (h : splitL c s.data.toList = l.map fun x : ByteArray => x.data.toList) : Ze s c = l := by
 unfold Ze;rw [h]; exact Zdt l
theorem Zd5 : ∀ {l : List Zb}, (∀ e ∈ l, Yt e.aD = true) → splitL 59 (JP l) = (l.map fun e => ZdW e) ++ [[]]
 | [], _ => rfl
 | e :: r, h => by
  rw [JQ, QO 59 _ _ (fun x hx hc => ZdX (h e (mem_cons_self ..)) (hc ▸ hx)), Zd5 fun x hx => h x (mem_cons_of_mem _ hx)]; rfl
theorem VQ {s : ByteArray} {l : List Zb} (h : IsEnts s l) : Ze s 59 = l.map Zmm ++ [ByteArray.empty] := by
 refine ZcS _ _ _ ?_;rw [← h.is, ZaX, Zd5 fun e he => (Y3 h.ok he).1, List.map_append, List.map_map]; rfl
theorem Zd6 {e : Zb} (h : Yt e.aD = true) : Ze (Zmm e) 61 = [e.aD, ZF e.aG] := by
 refine ZcS _ _ _ ?_;show splitL 61 (ZdW e) = _;unfold ZdW;rw [QO 61 _ _ (ZbH h 61 (by decide)), QY 61 _ (Zf3 61 (by decide) _)]; rfl
theorem Znz {e : Zb} (h : Yt e.aD = true) (hi : 1 ≤ e.aG ∧ e.aG ≤ 15) : ZiC (Zmm e) = e := by
 unfold ZiC;rw [Zd6 h];show (⟨e.aD, Xh (ZF e.aG)⟩ : Zb) = e;rw [XJ (by omega)]
theorem Zmn {s : ByteArray} {l : List Zb} (h : IsEnts s l) {i : Nat} (hi : i + 1 < (Ze s 59).length) : (Ze ((Ze s 59).getD i ByteArray.empty) 61).length = 2 := by
 rw [VQ h, length_append, length_map, length_singleton] at hi;rw [VQ h, getD_eq_getElem?_getD, List.getElem?_append_left (by rw [length_map]; omega), List.getElem?_map, List.getElem?_eq_getElem (by omega)];show (Ze (Zmm l[i]) 61).length = 2;rw [Zd6 (Y3 h.ok (List.getElem_mem _)).1]; rfl
theorem Zhu {s : ByteArray} {l : List Zb} (h : IsEnts s l) : ((Ze s 59).take ((Ze s 59).length - 1)).map ZiC = l := by
 rw [VQ h, length_append, length_map, length_singleton, Nat.add_sub_cancel, List.take_left' (by rw [length_map]), List.map_map];have : ∀ e ∈ l, (ZiC ∘ Zmm) e = e := fun e he => Znz (Y3 h.ok he).1 (Y3 h.ok he).2
 rw [List.map_congr_left this, List.map_id']
theorem Zd7 (s : ByteArray) (c : UInt8) : 1 ≤ (Ze s c).length := by rw [Qa]; omega
theorem U6 {s : ByteArray} {c : UInt8} {i : Nat} (h : i < (Ze s c).length) : ((Ze s c).getD i ByteArray.empty).size ≤ s.size := by
 have h1 := Jf s c;have key : ∀ (l : List ByteArray) (i : Nat), i < l.length → (l.getD i ByteArray.empty).size ≤ (Qz l ⟨#[c]⟩).size := by
  intro l
  induction l with
  | nil => intro i hi; exact absurd hi (Nat.not_lt_zero _)
  | cons x r ih =>
   intro i hi;rw [Zf (Qz _ _)];show _ ≤ (Go.Lib.join ((x :: r).map fun y : ByteArray => y.data.toList) _).length;rw [map_cons, Go.Lib.join_cons, length_append]
   cases i with
   | zero => show x.size ≤ _; rw [Zf]; omega
   | succ i =>
    have h2 := ih i (by simpa using hi)
    cases r with
    | nil => exact absurd (by simp at hi) (Nat.not_lt_zero i)
    | cons y r =>
     rw [Zf (Qz _ _)] at h2;have h3 : (Qz (y :: r) ⟨#[c]⟩).data.toList = Go.Lib.join ((y :: r).map fun y : ByteArray => y.data.toList) [c] := rfl;rw [h3, map_cons, Go.Lib.join_cons, length_append] at h2;show ((y :: r).getD i ByteArray.empty).size ≤ _;simp only [Go.Lib.joinTail, map_cons, List.flatten_cons, length_append] at h2 ⊢
     omega
 have := key _ i h
 rwa [h1] at this
theorem Zhv {s : ByteArray} {c : UInt8} (i : Nat) : ((Ze s c).getD i ByteArray.empty).size ≤ s.size := by
 by_cases h : i < (Ze s c).length
 ·exact U6 h
 ·rw [getD_eq_getElem?_getD, List.getElem?_eq_none (by omega)]; exact Nat.zero_le _
theorem ZnA {s : ByteArray} {n : Nat} (hs : s.size ≤ 1000000) : ZbL (((Ze s 59).take n).map ZiC) := fun e he => by
 obtain ⟨y, hy, rfl⟩ := List.mem_map.1 he;obtain ⟨i, hi, e⟩ := List.getElem_of_mem (List.mem_of_mem_take hy);have h1 := U6 (s := s) (c := 59) hi;rw [getD_eq_getElem?_getD, List.getElem?_eq_getElem hi, getD_some, e] at h1;have h2 := Zhv (s := y) (c := 61) 0;show ((Ze y 61).getD 0 ByteArray.empty).size ≤ _
 omega
theorem Za0 (s : ByteArray) (w0 : World) (hs : s.size ≤ 2048) : Calls prog 343 #[.string s] w0 fun e w' => (∃ l, entsG s = some l ∧ ∃ ao cp, e = .returned (.tuple #[.slice ao l.length cp, .bool true]) ∧ St w0 [Zg Zb.cells 2 312 (.slice ao l.length cp) l] w') ∨ (entsG s = none ∧ ∃ ae, e = .returned (.tuple #[.slice ae 0 0, .bool false]) ∧ Below w0.heap.size w0 w') := by
 have E := Bx.mk (St.start w0);refine ent func343 ntmps343 ?_;refine xsr<|xr 2 rfl<|xne<|xsr ?_;refine yem 312 2 E ?_;clear E;intro w1 b1 E;refine xr 1 rfl<|xne<|xsr<|xr 1 rfl ?_;refine yc (Jm s 59 _ (by omega)) func281 ?_;rintro _ w2 ⟨ao2, cp2, rfl, hs⟩;refine ⟨_, rfl, ?_⟩;replace E := E.ad hs;clear hs;refine xr 1 rfl<|xne<|xsq<|xsr<|xr 1 rfl<|xne<|xbl ?_;replace E := Bx.mk (E.o.nilRow Zb.cells 2 312 (some ⟨b1, 0, none⟩));intro a J;refine Zs (ι := Nat) (fun i a w => ∃ (ao : Option Addr) (cp : Nat) (es : List Zb), (i + 1 ≤ (Ze s 59).length ∧ es = ((Ze s 59).take i).map ZiC) ∧ Fr 55 a [(0, .string s), (5, .slice ao2 ((Ze s 59).length) cp2), (4, .slice ao es.length cp), (6, .int .i64 (i : Int))] ∧ St w0 ([Zg Zb.cells 2 312 (.slice ao es.length cp) es, Zg Zt 1 9 (.slice ao2 ((Ze s 59).length) cp2) (Ze s 59)]) w) (fun i => (Ze s 59).length - i) 0 ⟨_, _, [], ⟨Zd7 _ _, rfl⟩, J.ls _, E.o⟩ ?_;clear J E; clear a;rintro i a w3 ⟨ao, cp, es, ⟨hi, hq⟩, J, E⟩;replace E := Bx.mk E;have hel : es.length = i := by rw [hq, length_map, length_take]; omega
 have hpl0 := Qa s 59; have hct0 : s.data.toList.count 59 ≤ s.data.toList.length := List.count_le_length; have hsl0 := Zf s;revert a;refine xsq<|xsr<|xr 1 rfl<|xy rfl (vad rfl)<|xr 1 rfl<|xy rfl (vn 9 1 rfl)<|xr 1 rfl<|xne<|xcd 17 rfl (fun _ dcc1=>?_) fun _ dcc1=>?_
 refine xct rfl<|xsk<|xet<|xsq<|xbl<|xsq ?_;have hwz := U6 (s := s) (c := 59) (i := i) (by omega); have hpl := Qa s 59; have hct : s.data.toList.count 59 ≤ s.data.toList.length := List.count_le_length; have hsl := Zf s;obtain ⟨g3, rfl, _, _, _, _⟩ := E.o.rowOpen 1 rfl (by omega);refine xrl<|xr 2 rfl<|xy rfl (vx 9 i 1 rfl)<|xy rfl (fun a J=>ylo (v := .string ((Ze s 59).getD i ByteArray.empty)) rfl (J.ev rfl) (E.o.elem1 Zi 1 rfl (Zh (xs := Ze s 59) (j := i) (d := ByteArray.empty) (by omega)) rfl)) ?_;refine yc (Jm ((Ze s 59).getD i ByteArray.empty) 61 _ (by omega)) func281 ?_;rintro _ w4 ⟨ao4, cp4, rfl, hs⟩;refine ⟨_, rfl, ?_⟩;replace E := E.ad hs;clear hs;refine xr 1 rfl<|xne<|xsq<|xsr<|xr 1 rfl<|xy rfl (vn 9 1 rfl)<|xr 1 rfl<|xne<|xcn 27 rfl (fun _ dcc2=>?_) fun _ dcc2=>?_;refine xct rfl<|xsr ?_;refine yem 312 2 E ?_;clear E;intro w5 b5 E;refine xr 2 rfl<|xne<|xre<|xtr<|xbr<|xtr<|xtr<|xbr<|xtr<|xb2 results343 rfl rfl ?_;exact .inr ⟨ZbI fun l hl => absurd (Zmn hl (i := i) (by omega)) (by omega), _, rfl, E.o.bel⟩;refine xcf rfl<|xsk<|xet<|xsq ?_;have hp2 : (Ze ((Ze s 59).getD i ByteArray.empty) 61).length = 2 := by omega
 have hpz := U6 (s := ((Ze s 59).getD i ByteArray.empty)) (c := 61) (i := 1) (by omega);obtain ⟨g6, rfl, _, _, _, _⟩ := E.o.rowOpen 0 rfl (by omega);refine xrl<|xr 1 rfl<|xy rfl (vx 9 1 1 rfl)<|xy rfl (fun a J=>ylo (v := .string ((Ze ((Ze s 59).getD i ByteArray.empty) 61).getD 1 ByteArray.empty)) rfl (J.ev rfl) (E.o.elem1 Zi 0 rfl (Zh (xs := Ze ((Ze s 59).getD i ByteArray.empty) 61) (j := 1) (d := ByteArray.empty) (by omega)) rfl)) ?_;refine ycB (XX ((Ze ((Ze s 59).getD i ByteArray.empty) 61).getD 1 ByteArray.empty) _ (by omega)) func223 E ?_;clear E;intro w6 E;refine xr 5 rfl<|xne<|xrl<|xr 2 rfl<|xy rfl (vx 9 0 1 rfl)<|xy rfl (fun a J=>ylo (v := .string ((Ze ((Ze s 59).getD i ByteArray.empty) 61).getD 0 ByteArray.empty)) rfl (J.ev rfl) (E.o.elem1 Zi 0 rfl (Zh (xs := Ze ((Ze s 59).getD i ByteArray.empty) 61) (j := 0) (d := ByteArray.empty) (by omega)) rfl))<|xr 1 rfl<|xy rfl (vb [.string ((Ze ((Ze s 59).getD i ByteArray.empty) 61).getD 0 ByteArray.empty), .int .i64 (Xh ((Ze ((Ze s 59).getD i ByteArray.empty) 61).getD 1 ByteArray.empty))] rfl) ?_;refine ybs Zb.cells 312 2 [(⟨((Ze ((Ze s 59).getD i ByteArray.empty) 61).getD 0 ByteArray.empty), (Xh ((Ze ((Ze s 59).getD i ByteArray.empty) 61).getD 1 ByteArray.empty))⟩ : Zb)] E ?_;clear E;intro b7 w7 E;refine yap ZcR Zb.cells_len E 2 (St.rdN E.o Zb.cells_len 0 rfl) (Xj _) ?_;clear E;intro ao8 cp9 w8 E;refine xr 1 rfl<|xni<|xeb<|xet<|xrl<|xr 1 rfl<|xy rfl (vad rfl)<|xr 1 rfl<|xne ?_;have hz : es.length + ([(⟨((Ze ((Ze s 59).getD i ByteArray.empty) 61).getD 0 ByteArray.empty), (Xh ((Ze ((Ze s 59).getD i ByteArray.empty) 61).getD 1 ByteArray.empty))⟩ : Zb)]).length = (es ++ ([(⟨((Ze ((Ze s 59).getD i ByteArray.empty) 61).getD 0 ByteArray.empty), (Xh ((Ze ((Ze s 59).getD i ByteArray.empty) 61).getD 1 ByteArray.empty))⟩ : Zb)])).length := (length_append ..).symm;intro a J;rw [hz] at E J;have hnext : es ++ ([(⟨((Ze ((Ze s 59).getD i ByteArray.empty) 61).getD 0 ByteArray.empty), (Xh ((Ze ((Ze s 59).getD i ByteArray.empty) 61).getD 1 ByteArray.empty))⟩ : Zb)]) = ((Ze s 59).take (i + 1)).map ZiC := by rw [ZeW _ (by omega), List.map_append, hq]; rfl
 replace E:=E.pks [3,3];exact ⟨(i + 1), ⟨_, _, es ++ ([(⟨((Ze ((Ze s 59).getD i ByteArray.empty) 61).getD 0 ByteArray.empty), (Xh ((Ze ((Ze s 59).getD i ByteArray.empty) 61).getD 1 ByteArray.empty))⟩ : Zb)]), ⟨by omega, hnext⟩, J.less _ ⟨rfl, rfl, rfl, rfl, trivial⟩, (E.o.erS [3,2])⟩, (by omega)⟩;refine xcf rfl<|xex<|xtx<|xtx<|xbh<|xet<|xsq<|xsq ?_;have hpl := Qa s 59; have hct : s.data.toList.count 59 ≤ s.data.toList.length := List.count_le_length; have hsl := Zf s; have hfit : ZbL es := by rw [hq]; exact ZnA (by omega)
 refine xrl<|xr 1 rfl ?_;refine ycB (ZbM _ _ es _ hfit (by omega) (St.rdOf E.o Zb.cells_len 0 rfl)) func351 E ?_;clear E;intro w9 E;refine xr 2 rfl<|xcs 47 rfl (fun cc3=>?_) fun cc3=>?_;have hcok : YE es = false := by simpa using cc3
 refine xr 5 rfl<|xne<|xct rfl<|xsr ?_;refine yem 312 2 E ?_;clear E;intro w10 b10 E;refine xr 2 rfl<|xne<|xre<|xtr<|xb2 results343 rfl rfl ?_;refine .inr ⟨ZbI fun l hl => ?_, _, rfl, E.o.bel⟩;have he := Zhu hl; rw [show (Ze s 59).length - 1 = i by omega, ← hq] at he;rw [he, hl.ok] at hcok; cases hcok;have hcok : YE es = true := by simpa using cc3
 refine xr 1 rfl ?_;refine Zb3 (ZiB _ _ es _ (by simpa using hcok) (St.rdOf E.o Zb.cells_len 0 rfl)) func323 E ?_;clear E;intro w11 E;refine xr 1 rfl<|xy rfl (fun a J=>Xn rfl (J.ev rfl) (J.ev rfl))<|xr 1 rfl<|xne<|xcs 52 rfl (fun cc4=>?_) fun cc4=>?_;refine xct rfl<|xsr ?_;refine yem 312 2 E ?_;clear E;intro w12 b11 E;refine xr 2 rfl<|xne<|xre<|xtr<|xb2 results343 rfl rfl ?_;refine .inr ⟨ZbI fun l hl => ?_, _, rfl, E.o.bel⟩;have he := Zhu hl; rw [show (Ze s 59).length - 1 = i by omega, ← hq] at he;rw [he, hl.is] at cc4; simp at cc4;refine xcf rfl<|xsk<|xet<|xsr<|xr 3 rfl<|xne<|xre<|xb2 results343 rfl rfl ?_;have hIs : IsEnts s es := ⟨hcok, ZS (by simpa using cc4)⟩;exact .inl ⟨es, Zcg hIs, _, _, rfl, (E.o.erase 1)⟩
def less (xs : List Int) (r : Int) : List Int := xs.filter (fun x => !(x == r))
end Go.Proofs.YthnbgnjpbmnelaaGreatDoor
