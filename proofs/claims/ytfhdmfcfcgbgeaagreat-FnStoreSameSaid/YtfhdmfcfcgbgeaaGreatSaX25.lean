/- A part of the proof in YtfhdmfcfcgbgeaaGreatSaX30. -/
import Derived.Shelf.Slices.Cells
import Derived.Shelf.Slices.Delete
import Derived.Shelf.Slices.Empties
import Derived.Shelf.Slices.Turned
import Derived.Shelf.Spec.SlicesGrow
import Derived.Shelf.Spec.SlicesInsert
import Derived.Shelf.Spec.SlicesInsertGrow
import Derived.Test.YtfhdmfcfcgbgeaaGreatSaX24
namespace Go.Proofs.YtfhdmfcfcgbgeaaGreat
open Go.Proofs.Tryz
open List (getD_eq_getElem?_getD length_map)
set_option linter.unusedVariables false
set_option linter.unusedSimpArgs false
set_option maxHeartbeats 1000000
set_option maxRecDepth 100000
open Go.RowKit
def Zc.zero : Zc := ⟨0, 0, 0, ⟨PtrD.zero, 0, 0⟩⟩
theorem Zmk {ns : List (Option Zc)} {k : Nat} (h : ns.length ≤ k) : ns.getD k none = none := by
 rw [getD_eq_getElem?_getD, List.getElem?_eq_none h]; rfl
theorem Zky {k a b : Int} (h : inB k a b = false) : k < a ∨ b < k := by
 by_cases h1 : a ≤ k
 ·by_cases h2 : k ≤ b
  ·rw [XF h1 h2] at h; cases h
  ·omega
 ·omega
theorem Zml {ns : List (Option Zc)} {k : Int} (h : inB k 0 ((ns.length : Int) - 1) = false) : k < 0 ∨ ns.getD k.toNat none = none := by
 by_cases h0 : k < 0
 ·exact .inl h0
 ·refine .inr (Zmk ?_)
  have := Zky h
  omega
theorem ZhT {st : Za} (p : PtrD) : (Zn st p).size ≤ 128 := by
 cases hh : p.hole with
 | true => rw [Y5 hh]; exact Nat.zero_le _
 | false =>
  cases hf : XS p (Yk st p) with
  | false => rw [Zhs hh hf]; exact Nat.zero_le _
  | true =>
   rw [Jx hh hf];unfold XS at hf;simp only [Bool.and_eq_true, beq_iff_eq] at hf;have h := hf.1;unfold PtrD.ok at h;rw [hh] at h;simp only [Bool.false_or, Bool.and_eq_true] at h;have := (Zw h.1.1.2).2
   omega
theorem Zfa {s : ByteArray} (h : (s.toList == (⟨#[]⟩ : ByteArray).toList) = false) (h0 : s.size = 0) : False := by
 have := Zhk h
 omega
noncomputable def entF (st : Za) (n : Zc) : Option (List Zb) := bif n.ok && (n.aq == 2) then VY st n else none
theorem ZgJ {st : Za} {n : Zc} (h : n.ok = false ∨ (n.aq == 2) = false) : entF st n = none := by
 unfold entF;rcases h with h | h
 ·rw [h]; rfl
 ·rw [h, Bool.and_false]; rfl
theorem Zet {st : Za} {n : Zc} (h : n.ok = true) (h2 : (n.aq == 2) = true) : entF st n = VY st n := by unfold entF; rw [h, h2]; rfl
theorem Zeu {st : Za} {p : PtrD} (he : ((Zn st p).toList == (⟨#[]⟩ : ByteArray).toList) = false) : (Zn st p).size ≠ 0 := fun h => Zfa he h
theorem Zkz (a0 : Option Addr) (c0 : Nat) (a1 : Option Addr) (c1 : Nat) (a2 : Option Addr) (c2 : Nat) (a4 : Option Addr) (c4 : Nat) (a6 : Option Addr) (c6 : Nat) (st : Za) (t : Ze) {x l : List PtrD} (X : TreeX st t x l) (w0 : World) (hR : Rd Zx 1 w0 a0 st.af.length st.af) (hrow : Xu st) : Calls prog 151 #[sV a0 c0 a1 c1 a2 c2 a4 c4 a6 c6 st, tV t] w0 fun e w' => e = .returned (.tuple #[.string ((blobL st l).getD ByteArray.empty), .bool (blobL st l).isSome]) ∧ Below w0.heap.size w0 w' := by
 have HR := Bx.mk hR; clear hR;have E := Bx.mk (St.start w0);have hll := X.len; have hmm := X.many; have hlm : (l.map (Zn st)).length = l.length := length_map ..; have h16 := Zao X.lv;refine ent func151 ntmps151 ?_;refine xsr ?_;refine ybx E ?_;clear E;intro w1 b1 E;refine ybx E ?_;clear E;intro w2 b2 E;refine xr 2 rfl<|xne<|xsr<|xr 1 rfl<|xne<|xsr<|Xw 1 8 E rfl rfl<|Xw 0 7 E rfl rfl ?_;refine yc (Zct a0 c0 a1 c1 a2 c2 a4 c4 a6 c6 st t X _ (HR.out.below E.o.bel) hrow) func130 ?_;rintro _ w3 ⟨ao3, cp3, rfl, hs⟩;refine ⟨_, rfl, ?_⟩;replace E := E.ad hs;clear hs;refine xr 1 rfl<|xne<|xsq<|xsr<|xr 1 rfl<|xne<|xbl ?_;intro a J;refine Zt (ι := Nat) (fun k a w => ∃ (tx : ByteArray), (k ≤ l.length ∧ tx.size ≤ 128 * k ∧ blobL st l = (blobL st (l.drop k)).map (tx ++ ·)) ∧ Fr 41 a [(2, .pointer (some ⟨b1, 0, none⟩)), (3, .pointer (some ⟨b2, 0, none⟩)), (7, .slice ao3 ((l.map (Zn st)).length) cp3), (6, .string tx), (8, .int .i64 (k : Int))] ∧ St w0 ([Zf Zx 1 9 (.slice ao3 ((l.map (Zn st)).length) cp3) (l.map (Zn st)), boxA b2 7 81 (tV t), boxA b1 8 29 (sV a0 c0 a1 c1 a2 c2 a4 c4 a6 c6 st)]) w) (fun k => l.length - k) 0 ⟨⟨#[]⟩, ⟨Nat.zero_le _, Nat.zero_le _, ZiN⟩, J.ls _, E.o⟩ ?_;clear J E; clear a;rintro k a w4 ⟨tx, ⟨hk, htx, hbl⟩, J, E⟩;replace E := Bx.mk E;revert a;refine xsq<|xsr<|xr 1 rfl<|Xf 6 rfl<|Xl 1 E rfl rfl<|xr 1 rfl<|xne<|xcd 16 rfl (fun _ dcc1=>?_) fun _ dcc1=>?_
 refine xct rfl<|xsk<|xet<|xsq<|xbl<|xsq ?_;have hrp := ZhT (st := st) (l.getD k PtrD.zero);obtain ⟨g4, rfl, _, _, _, _⟩ := E.o.rowOpen 0 rfl (by omega);refine xrl<|xr 2 rfl<|xy rfl (vx 9 k 1 rfl)<|xy rfl (fun a J=>ylo (v := .string (Zn st (l.getD k PtrD.zero))) rfl (J.ev rfl) (E.o.elem1 Zo 0 rfl (ZjC (by omega)) rfl))<|xr 1 rfl<|xne<|xsq<|xsr<|xr 1 rfl<|xy rfl (fun a J=>YW rfl (J.ev rfl) (J.ev rfl))<|xr 1 rfl<|xcs 25 rfl (fun cc2=>?_) fun cc2=>?_;refine xr 11 rfl<|xne<|xct rfl<|xsr<|xr 2 rfl<|xne<|xre<|xtr<|xbr<|xtr<|xtr<|xbr<|xtr<|xb2 results151 rfl rfl ?_;have h0 : Zn st (l.getD k PtrD.zero) = ⟨#[]⟩ := ZV (by simpa using cc2);exact ⟨by rw [ZfL hbl (show k < l.length by omega) (.inl (by rw [h0]; rfl))] <;> rfl, E.o.bel⟩;refine xr 1 rfl<|xy rfl (vad rfl)<|Xf 6 rfl<|Xl 1 E rfl rfl<|xr 2 rfl<|xcd 31 rfl (fun _ dcc3=>?_) fun _ dcc3=>?_;refine xr 1 rfl<|xy rfl (fun a J=>ZO rfl (J.ev rfl) (by kernel_rfl))<|xr 3 rfl<|xne<|xcn 36 rfl (fun _ dcc4=>?_) fun _ dcc4=>?_;refine xct rfl<|xsr<|xr 2 rfl<|xne<|xre<|xtr<|xbr<|xtr<|xtr<|xbr<|xtr<|xb2 results151 rfl rfl ?_;exact ⟨by rw [ZfL hbl (show k < l.length by omega) (.inr ⟨by omega, by have h := dcc4; omega⟩)] <;> rfl, E.o.bel⟩;refine xcf rfl<|xsk<|xet<|xrl<|xr 2 rfl<|xy rfl (fun a J=>ZE rfl (J.ev rfl) (J.ev rfl) (by (try simp only [Xh, Zl]); omega))<|xr 1 rfl<|xni<|xeb<|xet<|xrl<|xr 1 rfl<|xy rfl (vad rfl)<|xr 1 rfl<|xne ?_;have h1 : (Zn st (l.getD k PtrD.zero)).size ≠ 0 := Zeu (by simpa using cc2);have hbs := ZfK hbl (show k < l.length by omega) h1 (.inr (by have h := dcc4; omega));intro a J;exact ⟨(k + 1), ⟨(tx ++ Zn st (l.getD k PtrD.zero)), ⟨by omega, by rw [Zl]; omega, hbs⟩, J.less _ ⟨rfl, rfl, rfl, rfl, rfl, trivial⟩, E.o⟩, (by omega)⟩;refine xr 5 rfl<|xne<|xcf rfl<|xsk<|xet<|xrl<|xr 2 rfl<|xy rfl (fun a J=>ZE rfl (J.ev rfl) (J.ev rfl) (by (try simp only [Xh, Zl]); omega))<|xr 1 rfl<|xni<|xeb<|xet<|xrl<|xr 1 rfl<|xy rfl (vad rfl)<|xr 1 rfl<|xne ?_;have h1 : (Zn st (l.getD k PtrD.zero)).size ≠ 0 := Zeu (by simpa using cc2);have hbs := ZfK hbl (show k < l.length by omega) h1 (.inl (by omega));intro a J;exact ⟨(k + 1), ⟨(tx ++ Zn st (l.getD k PtrD.zero)), ⟨by omega, by rw [Zl]; omega, hbs⟩, J.less _ ⟨rfl, rfl, rfl, rfl, rfl, trivial⟩, E.o⟩, (by omega)⟩;refine xcf rfl<|xex<|xtx<|xtx<|xbh<|xet<|xsr<|xr 3 rfl<|xne<|xre<|xb2 results151 rfl rfl ?_;have hbx := Zmc hbl (by omega);exact ⟨by rw [hbx] <;> rfl, E.o.bel⟩
theorem V0 (a0 : Option Addr) (c0 : Nat) (a1 : Option Addr) (c1 : Nat) (a2 : Option Addr) (c2 : Nat) (a4 : Option Addr) (c4 : Nat) (a6 : Option Addr) (c6 : Nat) (st : Za) (n : Zc) (w0 : World) (hR : Rd Zx 1 w0 a0 st.af.length st.af) (hrow : Xu st) (h0 : 0 ≤ st.ak) : Calls prog 131 #[sV a0 c0 a1 c1 a2 c2 a4 c4 a6 c6 st, nV n] w0 fun e w' => (∃ es, entF st n = some es ∧ ∃ ao cp, e = .returned (.tuple #[.slice ao es.length cp, .bool true]) ∧ St w0 [Zf Zb.cells 2 133 (.slice ao es.length cp) es] w') ∨ (entF st n = none ∧ ∃ ae, e = .returned (.tuple #[.slice ae 0 0, .bool false]) ∧ Below w0.heap.size w0 w') := by
 have HR := Bx.mk hR; clear hR;have E := Bx.mk (St.start w0);refine ent func131 ntmps131 ?_;refine xsr ?_;refine ybx E ?_;clear E;intro w1 b1 E;refine ybx E ?_;clear E;intro w2 b2 E;refine xr 2 rfl<|xne<|xsq<|xsr<|Xw 0 10 E rfl rfl ?_;refine ycB (J1 n _) func147 E ?_;clear E;intro w3 E;refine xr 2 rfl<|xcs 11 rfl (fun cc1=>?_) fun cc1=>?_;refine xr 11 rfl<|xne<|xct rfl<|xsr ?_;refine yem 133 2 E ?_;clear E;intro w4 b3 E;refine xr 2 rfl<|xne<|xre<|xtr<|xb2 results131 rfl rfl ?_;exact .inr ⟨ZgJ (.inl (by simpa using cc1)), _, rfl, E.o.bel⟩;refine Xf 0 rfl<|Xl 0 E rfl rfl<|xr 3 rfl<|xcn 16 rfl (fun cc2 dcc2=>?_) fun cc2 dcc2=>?_;refine xr 6 rfl<|xne<|xct rfl<|xsr ?_;refine yem 133 2 E ?_;clear E;intro w5 b4 E;refine xr 2 rfl<|xne<|xre<|xtr<|xb2 results131 rfl rfl ?_;exact .inr ⟨ZgJ (.inr (by simpa using cc2)), _, rfl, E.o.bel⟩;refine Xw 1 8 E rfl rfl<|Xf 3 rfl<|Xw 0 7 E rfl rfl ?_;refine Jg (Zl2 a0 c0 a1 c1 a2 c2 a4 c4 a6 c6 st n.au _ (HR.out.below E.o.bel) hrow) func150 E ?_;clear E;intro w6 E;refine xr 2 rfl<|xne<|xcs 22 rfl (fun cc3=>?_) fun cc3=>?_;refine xct rfl<|xsr ?_;refine yem 133 2 E ?_;clear E;intro w7 b5 E;refine xr 2 rfl<|xne<|xre<|xtr<|xb2 results131 rfl rfl ?_;exact .inr ⟨by unfold entF; rw [ZfM (Zl6 h0 (by simpa using cc3))]; cases (n.ok && (n.aq == 2)) <;> rfl, _, rfl, E.o.bel⟩;refine xcf rfl<|xsk<|xet<|xsq ?_;have hok : n.ok = true := by simpa using cc1
 have hk2 : (n.aq == 2) = true := by simpa using cc2
 have htk : okS st n.au = true := by simpa using cc3
 obtain ⟨l, hlf⟩ := Zl5 h0 htk; obtain ⟨x, X⟩ := treeX h0 hlf;refine xrl<|Xw 1 8 E rfl rfl<|Xf 3 rfl<|Xw 0 7 E rfl rfl ?_;refine ycB (Zkz a0 c0 a1 c1 a2 c2 a4 c4 a6 c6 st n.au X _ (HR.out.below E.o.bel) hrow) func151 E ?_;clear E;intro w8 E;refine xr 5 rfl<|xne<|xsq<|xsr<|xr 3 rfl<|xcs 33 rfl (fun cc4=>?_) fun cc4=>?_;refine xr 6 rfl<|xne<|xct rfl<|xsr ?_;refine yem 133 2 E ?_;clear E;intro w9 b6 E;refine xr 2 rfl<|xne<|xre<|xtr<|xb2 results131 rfl rfl ?_;exact .inr ⟨by unfold entF; rw [ZfN hlf (by cases hb9 : blobL st l with | none => rfl | some s => rw [hb9] at cc4; simp at cc4)]; cases (n.ok && (n.aq == 2)) <;> rfl, _, rfl, E.o.bel⟩;refine xr 1 rfl<|xy rfl (fun a J=>ZO rfl (J.ev rfl) (by kernel_rfl))<|Xf 2 rfl<|Xl 0 E rfl rfl<|xr 2 rfl<|xne<|xcn 39 rfl (fun _ dcc5=>?_) fun _ dcc5=>?_;refine xct rfl<|xsr ?_;refine yem 133 2 E ?_;clear E;intro w10 b7 E;refine xr 2 rfl<|xne<|xre<|xtr<|xb2 results131 rfl rfl ?_;obtain ⟨s, hbl⟩ : ∃ s, blobL st l = some s := Option.isSome_iff_exists.1 (by simpa using cc4);exact .inr ⟨by unfold entF; rw [ZfO hlf hbl (by have h := dcc5; rw [hbl] at h; exact h)]; cases (n.ok && (n.aq == 2)) <;> rfl, _, rfl, E.o.bel⟩;refine xcf rfl<|xsk<|xet<|xsq ?_;obtain ⟨s, hbl⟩ : ∃ s, blobL st l = some s := Option.isSome_iff_exists.1 (by simpa using cc4); have hsz := Zel (st := st) (fun p => ZhT p) hbl; have h16 := Zao hlf; have hsz9 : ((blobL st l).getD ByteArray.empty).size ≤ 2048 := by rw [hbl]; show s.size ≤ 2048; omega
 refine xrl<|xr 1 rfl ?_;refine yc (Za5 ((blobL st l).getD ByteArray.empty) _ hsz9) func152 ?_;rintro _ w11 (⟨el, heg, aoL, cpL, rfl, hs1⟩ | ⟨heg, ae, rfl, hb⟩);refine ⟨_, rfl, ?_⟩; replace E := E.ad hs1;clear hs1;refine xr 4 rfl<|xne<|xre<|xb2 results131 rfl rfl ?_;have hd : entF st n = entsG s := by rw [Zet hok hk2]; exact Zem hlf hbl (by have h := dcc5; rw [hbl] at h; exact h)
 rw [hbl] at heg;exact .inl ⟨el, hd.trans heg, _, _, rfl, (E.o.erS [2,1])⟩;refine ⟨_, rfl, ?_⟩; replace E := Bx.mk (E.o.later hb);clear hb;refine xr 4 rfl<|xne<|xre<|xb2 results131 rfl rfl ?_;have hd : entF st n = entsG s := by rw [Zet hok hk2]; exact Zem hlf hbl (by have h := dcc5; rw [hbl] at h; exact h)
 rw [hbl] at heg;exact .inr ⟨hd.trans heg, _, rfl, E.o.bel⟩
end Go.Proofs.YtfhdmfcfcgbgeaaGreat
