/- A part of the proof in YtfhdmfcfcgbgeaaGreatDoorNoX33. -/
import Derived.Shelf.Slices.Cells
import Derived.Shelf.Slices.Delete
import Derived.Shelf.Slices.Empties
import Derived.Shelf.Slices.Turned
import Derived.Shelf.Spec.SlicesGrow
import Derived.Shelf.Spec.SlicesInsert
import Derived.Shelf.Spec.SlicesInsertGrow
import Derived.Test.YtfhdmfcfcgbgeaaGreatDoorNoX25
namespace Go.Proofs.YtfhdmfcfcgbgeaaGreatDoor
open Go.Proofs.Tryz
open List (getD_eq_getElem?_getD length_append length_map length_take mem_cons)
set_option linter.unusedVariables false
set_option linter.unusedSimpArgs false
set_option maxHeartbeats 1000000
set_option maxRecDepth 100000
open Go.RowKit
open Go.RowKit
def Zb.zero : Zb := ⟨0, 0, 0, ⟨PtrD.zero, 0, 0⟩⟩
theorem ZlU {ns : List (Option Zb)} {k : Nat} (h : ns.length ≤ k) : ns.getD k none = none := by
 rw [getD_eq_getElem?_getD, List.getElem?_eq_none h]; rfl
open Go.RowKit
theorem Zj3 {k a b : Int} (h : inB k a b = false) : k < a ∨ b < k := by
 by_cases h1 : a ≤ k
 ·by_cases h2 : k ≤ b
  ·rw [XG h1 h2] at h; cases h
  ·omega
 ·omega
theorem ZlV {ns : List (Option Zb)} {k : Int} (h : inB k 0 ((ns.length : Int) - 1) = false) : k < 0 ∨ ns.getD k.toNat none = none := by
 by_cases h0 : k < 0
 ·exact .inl h0
 ·refine .inr (ZlU ?_)
  have := Zj3 h
  omega
theorem Zhd {st : Za} (p : PtrD) : (Zn st p).size ≤ 128 := by
 cases hh : p.hole with
 | true => rw [Y5 hh]; exact Nat.zero_le _
 | false =>
  cases hf : X5 p (Yq st p) with
  | false => rw [ZgO hh hf]; exact Nat.zero_le _
  | true =>
   rw [Jr hh hf];unfold X5 at hf;simp only [Bool.and_eq_true, beq_iff_eq] at hf;have h := hf.1;unfold PtrD.ok at h;rw [hh] at h;simp only [Bool.false_or, Bool.and_eq_true] at h;have := (Zs h.1.1.2).2
   omega
theorem Zev {s : ByteArray} (h : (s.toList == (⟨#[]⟩ : ByteArray).toList) = false) (h0 : s.size = 0) : False := by
 have := ZgF h
 omega
open Go.RowKit
def Zb.cs (n : Zb) : List Value := [.int .i64 n.ak, .int .i64 n.az, .int .i64 n.am, .int .i64 n.aj.af.aB, .int .i64 n.aj.af.al, .int .i64 n.aj.af.am, .int .i64 n.aj.af.aC, .int .i64 n.aj.af.ar, .int .i64 n.aj.aw, .int .i64 n.aj.ah]
theorem Zb.cs_len (n : Zb) : n.cs.length = 10 := rfl
theorem ZnL : Us prog 72 28 10 80 := by
 obtain ⟨i0, hi, hz0, hz1, hz2⟩ := info_parts (P := prog) (e := 28) (z := .agg #[.int .i64 0, .int .i64 0, .int .i64 0, .int .i64 0, .int .i64 0, .int .i64 0, .int .i64 0, .int .i64 0, .int .i64 0, .int .i64 0]) (size := 10) (bytes := 80) (by kernel_rfl);exact ⟨Tryz.underlying72, ⟨i0, _, hi, hz0, hz1, hz2, rfl⟩, by decide⟩
theorem ZcQ (xs : List Zb) : ∀ u ∈ xs.flatMap Zb.cs, u.oneCell' = true := by
 intro u hu;obtain ⟨x, _, hx⟩ := List.mem_flatMap.1 hu;simp only [Zb.cs, mem_cons, List.not_mem_nil, or_false] at hx;rcases hx with rfl | rfl | rfl | rfl | rfl | rfl | rfl | rfl | rfl | rfl <;> rfl
def XN (ns : List (Option Zb)) : List Zb := ns.map fun o => o.getD Zb.zero
theorem Vb (ns : List (Option Zb)) : (XN ns).length = ns.length := length_map ..
theorem Zck (ns : List (Option Zb)) (k : Nat) : (XN ns).getD k Zb.zero = (ns.getD k none).getD Zb.zero := by
 unfold XN;rw [getD_eq_getElem?_getD, getD_eq_getElem?_getD, List.getElem?_map]
 cases ns[k]? <;> rfl
theorem Zhe {ns : List (Option Zb)} {k : Nat} {n : Zb} (h : ns.getD k none = some n) : (XN ns).getD k Zb.zero = n := by rw [Zck, h]; rfl
theorem Zhf {ns : List (Option Zb)} {k : Nat} (h : ns.getD k none = none) : (XN ns).getD k Zb.zero = Zb.zero := by rw [Zck, h]; rfl
noncomputable def entF (st : Za) (n : Zb) : Option (List Zc) := bif n.ok && (n.ak == 2) then VT st n else none
theorem Zf4 {st : Za} {n : Zb} (h : n.ok = false ∨ (n.ak == 2) = false) : entF st n = none := by
 unfold entF;rcases h with h | h
 ·rw [h]; rfl
 ·rw [h, Bool.and_false]; rfl
theorem ZdY {st : Za} {n : Zb} (h : n.ok = true) (h2 : (n.ak == 2) = true) : entF st n = VT st n := by unfold entF; rw [h, h2]; rfl
theorem ZdZ {st : Za} {p : PtrD} (he : ((Zn st p).toList == (⟨#[]⟩ : ByteArray).toList) = false) : (Zn st p).size ≠ 0 := fun h => Zev he h
theorem Zj4 (a0 : Option Addr) (c0 : Nat) (a1 : Option Addr) (c1 : Nat) (a2 : Option Addr) (c2 : Nat) (a4 : Option Addr) (c4 : Nat) (a6 : Option Addr) (c6 : Nat) (st : Za) (t : Ze) {x l : List PtrD} (X : TreeX st t x l) (w0 : World) (hR : Rd Zu 1 w0 a0 st.ac.length st.ac) (hrow : Xi st) : Calls prog 185 #[sV a0 c0 a1 c1 a2 c2 a4 c4 a6 c6 st, tV t] w0 fun e w' => e = .returned (.tuple #[.string ((blobL st l).getD ByteArray.empty), .bool (blobL st l).isSome]) ∧ Below w0.heap.size w0 w' := by
 have HR := Bx.mk hR; clear hR;have E := Bx.mk (St.start w0);have hll := X.len; have hmm := X.many; have hlm : (l.map (Zn st)).length = l.length := length_map ..; have h16 := UF X.lv;refine ent func185 ntmps185 ?_;refine xsr ?_;refine ybx E ?_;clear E;intro w1 b1 E;refine ybx E ?_;clear E;intro w2 b2 E;refine xr 2 rfl<|xne<|xsr<|xr 1 rfl<|xne<|xsr<|Xw 1 8 E rfl rfl<|Xw 0 7 E rfl rfl ?_;refine yc (Zaj a0 c0 a1 c1 a2 c2 a4 c4 a6 c6 st t X _ (HR.out.below E.o.bel) hrow) func70 ?_;rintro _ w3 ⟨ao3, cp3, rfl, hs⟩;refine ⟨_, rfl, ?_⟩;replace E := E.ad hs;clear hs;refine xr 1 rfl<|xne<|xsq<|xsr<|xr 1 rfl<|xne<|xbl ?_;intro a J;refine Zt (ι := Nat) (fun k a w => ∃ (tx : ByteArray), (k ≤ l.length ∧ tx.size ≤ 128 * k ∧ blobL st l = (blobL st (l.drop k)).map (tx ++ ·)) ∧ Fr 41 a [(2, .pointer (some ⟨b1, 0, none⟩)), (3, .pointer (some ⟨b2, 0, none⟩)), (7, .slice ao3 ((l.map (Zn st)).length) cp3), (6, .string tx), (8, .int .i64 (k : Int))] ∧ St w0 ([Zg Zu 1 9 (.slice ao3 ((l.map (Zn st)).length) cp3) (l.map (Zn st)), boxA b2 7 26 (tV t), boxA b1 8 44 (sV a0 c0 a1 c1 a2 c2 a4 c4 a6 c6 st)]) w) (fun k => l.length - k) 0 ⟨⟨#[]⟩, ⟨Nat.zero_le _, Nat.zero_le _, Zic⟩, J.ls _, E.o⟩ ?_;clear J E; clear a;rintro k a w4 ⟨tx, ⟨hk, htx, hbl⟩, J, E⟩;replace E := Bx.mk E;revert a;refine xsq<|xsr<|xr 1 rfl<|Xf 6 rfl<|Xl 1 E rfl rfl<|xr 1 rfl<|xne<|xcd 16 rfl (fun _ dcc1=>?_) fun _ dcc1=>?_
 refine xct rfl<|xsk<|xet<|xsq<|xbl<|xsq ?_;have hrp := Zhd (st := st) (l.getD k PtrD.zero);obtain ⟨g4, rfl, _, _, _, _⟩ := E.o.rowOpen 0 rfl (by omega);refine xrl<|xr 2 rfl<|xy rfl (vx 9 k 1 rfl)<|xy rfl (fun a J=>ylo (v := .string (Zn st (l.getD k PtrD.zero))) rfl (J.ev rfl) (E.o.elem1 Zf 0 rfl (ZfW (by omega)) rfl))<|xr 1 rfl<|xne<|xsq<|xsr<|xr 1 rfl<|xy rfl (fun a J=>Xp rfl (J.ev rfl) (J.ev rfl))<|xr 1 rfl<|xcs 25 rfl (fun cc2=>?_) fun cc2=>?_;refine xr 11 rfl<|xne<|xct rfl<|xsr<|xr 2 rfl<|xne<|xre<|xtr<|xbr<|xtr<|xtr<|xbr<|xtr<|xb2 results185 rfl rfl ?_;have h0 : Zn st (l.getD k PtrD.zero) = ⟨#[]⟩ := ZW (by simpa using cc2);exact ⟨by rw [Zfb hbl (show k < l.length by omega) (.inl (by rw [h0]; rfl))] <;> rfl, E.o.bel⟩;refine xr 1 rfl<|xy rfl (vad rfl)<|Xf 6 rfl<|Xl 1 E rfl rfl<|xr 2 rfl<|xcd 31 rfl (fun _ dcc3=>?_) fun _ dcc3=>?_;refine xr 1 rfl<|xy rfl (fun a J=>ZO rfl (J.ev rfl) (by kernel_rfl))<|xr 3 rfl<|xne<|xcn 36 rfl (fun _ dcc4=>?_) fun _ dcc4=>?_;refine xct rfl<|xsr<|xr 2 rfl<|xne<|xre<|xtr<|xbr<|xtr<|xtr<|xbr<|xtr<|xb2 results185 rfl rfl ?_;exact ⟨by rw [Zfb hbl (show k < l.length by omega) (.inr ⟨by omega, by have h := dcc4; omega⟩)] <;> rfl, E.o.bel⟩;refine xcf rfl<|xsk<|xet<|xrl<|xr 2 rfl<|xy rfl (fun a J=>ZD rfl (J.ev rfl) (J.ev rfl) (by (try simp only [Xe, Zk]); omega))<|xr 1 rfl<|xni<|xeb<|xet<|xrl<|xr 1 rfl<|xy rfl (vad rfl)<|xr 1 rfl<|xne ?_;have h1 : (Zn st (l.getD k PtrD.zero)).size ≠ 0 := ZdZ (by simpa using cc2);have hbs := Zfa hbl (show k < l.length by omega) h1 (.inr (by have h := dcc4; omega));intro a J;exact ⟨(k + 1), ⟨(tx ++ Zn st (l.getD k PtrD.zero)), ⟨by omega, by rw [Zk]; omega, hbs⟩, J.less _ ⟨rfl, rfl, rfl, rfl, rfl, trivial⟩, E.o⟩, (by omega)⟩;refine xr 5 rfl<|xne<|xcf rfl<|xsk<|xet<|xrl<|xr 2 rfl<|xy rfl (fun a J=>ZD rfl (J.ev rfl) (J.ev rfl) (by (try simp only [Xe, Zk]); omega))<|xr 1 rfl<|xni<|xeb<|xet<|xrl<|xr 1 rfl<|xy rfl (vad rfl)<|xr 1 rfl<|xne ?_;have h1 : (Zn st (l.getD k PtrD.zero)).size ≠ 0 := ZdZ (by simpa using cc2);have hbs := Zfa hbl (show k < l.length by omega) h1 (.inl (by omega));intro a J;exact ⟨(k + 1), ⟨(tx ++ Zn st (l.getD k PtrD.zero)), ⟨by omega, by rw [Zk]; omega, hbs⟩, J.less _ ⟨rfl, rfl, rfl, rfl, rfl, trivial⟩, E.o⟩, (by omega)⟩;refine xcf rfl<|xex<|xtx<|xtx<|xbh<|xet<|xsr<|xr 3 rfl<|xne<|xre<|xb2 results185 rfl rfl ?_;have hbx := ZlM hbl (by omega);exact ⟨by rw [hbx] <;> rfl, E.o.bel⟩
theorem VV (a0 : Option Addr) (c0 : Nat) (a1 : Option Addr) (c1 : Nat) (a2 : Option Addr) (c2 : Nat) (a4 : Option Addr) (c4 : Nat) (a6 : Option Addr) (c6 : Nat) (st : Za) (n : Zb) (w0 : World) (hR : Rd Zu 1 w0 a0 st.ac.length st.ac) (hrow : Xi st) (h0 : 0 ≤ st.av) : Calls prog 152 #[sV a0 c0 a1 c1 a2 c2 a4 c4 a6 c6 st, nV n] w0 fun e w' => (∃ es, entF st n = some es ∧ ∃ ao cp, e = .returned (.tuple #[.slice ao es.length cp, .bool true]) ∧ St w0 [Zg Zc.cells 2 153 (.slice ao es.length cp) es] w') ∨ (entF st n = none ∧ ∃ ae, e = .returned (.tuple #[.slice ae 0 0, .bool false]) ∧ Below w0.heap.size w0 w') := by
 have HR := Bx.mk hR; clear hR;have E := Bx.mk (St.start w0);refine ent func152 ntmps152 ?_;refine xsr ?_;refine ybx E ?_;clear E;intro w1 b1 E;refine ybx E ?_;clear E;intro w2 b2 E;refine xr 2 rfl<|xne<|xsq<|xsr<|Xw 0 10 E rfl rfl ?_;refine ycB (QK n _) func8 E ?_;clear E;intro w3 E;refine xr 2 rfl<|xcs 11 rfl (fun cc1=>?_) fun cc1=>?_;refine xr 11 rfl<|xne<|xct rfl<|xsr ?_;refine yem 153 2 E ?_;clear E;intro w4 b3 E;refine xr 2 rfl<|xne<|xre<|xtr<|xb2 results152 rfl rfl ?_;exact .inr ⟨Zf4 (.inl (by simpa using cc1)), _, rfl, E.o.bel⟩;refine Xf 0 rfl<|Xl 0 E rfl rfl<|xr 3 rfl<|xcn 16 rfl (fun cc2 dcc2=>?_) fun cc2 dcc2=>?_;refine xr 6 rfl<|xne<|xct rfl<|xsr ?_;refine yem 153 2 E ?_;clear E;intro w5 b4 E;refine xr 2 rfl<|xne<|xre<|xtr<|xb2 results152 rfl rfl ?_;exact .inr ⟨Zf4 (.inr (by simpa using cc2)), _, rfl, E.o.bel⟩;refine Xw 1 8 E rfl rfl<|Xf 3 rfl<|Xw 0 7 E rfl rfl ?_;refine Zbk (ZlB a0 c0 a1 c1 a2 c2 a4 c4 a6 c6 st n.aj _ (HR.out.below E.o.bel) hrow) func184 E ?_;clear E;intro w6 E;refine xr 2 rfl<|xne<|xcs 22 rfl (fun cc3=>?_) fun cc3=>?_;refine xct rfl<|xsr ?_;refine yem 153 2 E ?_;clear E;intro w7 b5 E;refine xr 2 rfl<|xne<|xre<|xtr<|xb2 results152 rfl rfl ?_;exact .inr ⟨by unfold entF; rw [Zfc (ZlF h0 (by simpa using cc3))]; cases (n.ok && (n.ak == 2)) <;> rfl, _, rfl, E.o.bel⟩;refine xcf rfl<|xsk<|xet<|xsq ?_;have hok : n.ok = true := by simpa using cc1
 have hk2 : (n.ak == 2) = true := by simpa using cc2
 have htk : okS st n.aj = true := by simpa using cc3
 obtain ⟨l, hlf⟩ := ZlE h0 htk; obtain ⟨x, X⟩ := treeX h0 hlf;refine xrl<|Xw 1 8 E rfl rfl<|Xf 3 rfl<|Xw 0 7 E rfl rfl ?_;refine ycB (Zj4 a0 c0 a1 c1 a2 c2 a4 c4 a6 c6 st n.aj X _ (HR.out.below E.o.bel) hrow) func185 E ?_;clear E;intro w8 E;refine xr 5 rfl<|xne<|xsq<|xsr<|xr 3 rfl<|xcs 33 rfl (fun cc4=>?_) fun cc4=>?_;refine xr 6 rfl<|xne<|xct rfl<|xsr ?_;refine yem 153 2 E ?_;clear E;intro w9 b6 E;refine xr 2 rfl<|xne<|xre<|xtr<|xb2 results152 rfl rfl ?_;exact .inr ⟨by unfold entF; rw [Zfd hlf (by cases hb9 : blobL st l with | none => rfl | some s => rw [hb9] at cc4; simp at cc4)]; cases (n.ok && (n.ak == 2)) <;> rfl, _, rfl, E.o.bel⟩;refine xr 1 rfl<|xy rfl (fun a J=>ZO rfl (J.ev rfl) (by kernel_rfl))<|Xf 2 rfl<|Xl 0 E rfl rfl<|xr 2 rfl<|xne<|xcn 39 rfl (fun _ dcc5=>?_) fun _ dcc5=>?_;refine xct rfl<|xsr ?_;refine yem 153 2 E ?_;clear E;intro w10 b7 E;refine xr 2 rfl<|xne<|xre<|xtr<|xb2 results152 rfl rfl ?_;obtain ⟨s, hbl⟩ : ∃ s, blobL st l = some s := Option.isSome_iff_exists.1 (by simpa using cc4);exact .inr ⟨by unfold entF; rw [Zfe hlf hbl (by have h := dcc5; rw [hbl] at h; exact h)]; cases (n.ok && (n.ak == 2)) <;> rfl, _, rfl, E.o.bel⟩;refine xcf rfl<|xsk<|xet<|xsq ?_;obtain ⟨s, hbl⟩ : ∃ s, blobL st l = some s := Option.isSome_iff_exists.1 (by simpa using cc4); have hsz := ZdO (st := st) (fun p => Zhd p) hbl; have h16 := UF hlf; have hsz9 : ((blobL st l).getD ByteArray.empty).size ≤ 2048 := by rw [hbl]; show s.size ≤ 2048; omega
 refine xrl<|xr 1 rfl ?_;refine yc (Za4 ((blobL st l).getD ByteArray.empty) _ hsz9) func186 ?_;rintro _ w11 (⟨el, heg, aoL, cpL, rfl, hs1⟩ | ⟨heg, ae, rfl, hb⟩);refine ⟨_, rfl, ?_⟩; replace E := E.ad hs1;clear hs1;refine xr 4 rfl<|xne<|xre<|xb2 results152 rfl rfl ?_;have hd : entF st n = entsG s := by rw [ZdY hok hk2]; exact ZdP hlf hbl (by have h := dcc5; rw [hbl] at h; exact h)
 rw [hbl] at heg;exact .inl ⟨el, hd.trans heg, _, _, rfl, (E.o.erS [2,1])⟩;refine ⟨_, rfl, ?_⟩; replace E := Bx.mk (E.o.later hb);clear hb;refine xr 4 rfl<|xne<|xre<|xb2 results152 rfl rfl ?_;have hd : entF st n = entsG s := by rw [ZdY hok hk2]; exact ZdP hlf hbl (by have h := dcc5; rw [hbl] at h; exact h)
 rw [hbl] at heg;exact .inr ⟨hd.trans heg, _, rfl, E.o.bel⟩
theorem ZcR {ns : List (Option Zb)} {k : Nat} (h : k < ns.length) {n : Zb} (hn : (XN ns).getD k Zb.zero = n) : (XN ns).take k ++ [n] = (XN ns).take (k + 1) := by
 have hl : k < (XN ns).length := by rw [Vb]; exact h
 rw [List.take_succ_eq_append_getElem hl, ← hn, getD_eq_getElem?_getD, List.getElem?_eq_getElem hl]; rfl
theorem Zf5 (a0 : Option Addr) (c0 : Nat) (a1 : Option Addr) (c1 : Nat) (a2 : Option Addr) (c2 : Nat) (a4 : Option Addr) (c4 : Nat) (a6 : Option Addr) (c6 : Nat) (st : Za) (t : Ze) {ns : List (Option Zb)} (htb : Zeu st t = some ns) (w0 : World) (hR : Rd Zu 1 w0 a0 st.ac.length st.ac) (hrow : Xi st) (h0 : 0 ≤ st.av) : Calls prog 42 #[sV a0 c0 a1 c1 a2 c2 a4 c4 a6 c6 st, tV t] w0 fun e w' => ∃ ao cp, e = .returned (.slice ao (XN ns).length cp) ∧ St w0 [Zg Zb.cs 10 28 (.slice ao (XN ns).length cp) (XN ns)] w' := by
 have HR := Bx.mk hR; clear hR;have E := Bx.mk (St.start w0);obtain ⟨l, hlf, htL, hlen⟩ := ZfY htb; obtain ⟨x, X⟩ := treeX h0 hlf; have hll := X.len; have hmm := X.many; have hlm : (l.map (Zn st)).length = l.length := length_map ..; have h16 := UF hlf;refine ent func42 ntmps42 ?_;refine xsr ?_;refine ybx E ?_;clear E;intro w1 b1 E;refine ybx E ?_;clear E;intro w2 b2 E;refine xr 1 rfl<|xne<|xsr ?_;refine yem 28 10 E ?_;clear E;intro w3 b3 E;refine xr 1 rfl<|xne<|xsr<|Xw 1 8 E rfl rfl<|Xw 0 7 E rfl rfl ?_;refine yc (Zaj a0 c0 a1 c1 a2 c2 a4 c4 a6 c6 st t X _ (HR.out.below E.o.bel) hrow) func70 ?_;rintro _ w4 ⟨ao4, cp4, rfl, hs⟩;refine ⟨_, rfl, ?_⟩;replace E := E.ad hs;clear hs;refine xr 1 rfl<|xne<|xsq<|xsr<|xr 1 rfl<|xne<|xbl ?_;replace E := Bx.mk (E.o.nilRow Zb.cs 10 28 (some ⟨b3, 0, none⟩));intro a J;refine Zt (ι := Nat) (fun k a w => ∃ (ao : Option Addr) (cp : Nat) (xs : List Zb), (k ≤ ns.length ∧ xs = (XN ns).take k) ∧ Fr 33 a [(2, .pointer (some ⟨b1, 0, none⟩)), (3, .pointer (some ⟨b2, 0, none⟩)), (6, .slice ao4 ((l.map (Zn st)).length) cp4), (5, .slice ao xs.length cp), (7, .int .i64 (k : Int))] ∧ St w0 ([Zg Zb.cs 10 28 (.slice ao xs.length cp) xs, Zg Zu 1 9 (.slice ao4 ((l.map (Zn st)).length) cp4) (l.map (Zn st)), boxA b2 7 26 (tV t), boxA b1 8 44 (sV a0 c0 a1 c1 a2 c2 a4 c4 a6 c6 st)]) w) (fun k => ns.length - k) 0 ⟨_, _, [], ⟨Nat.zero_le _, rfl⟩, J.ls _, E.o⟩ ?_;clear J E; clear a;rintro k a w5 ⟨ao, cp, xs, ⟨hk, hq⟩, J, E⟩;replace E := Bx.mk E;have hxl : xs.length = k := by rw [hq, length_take, Vb]; omega
 revert a;refine xsq<|xsr<|xr 2 rfl<|xy rfl (vn 9 1 rfl)<|xr 1 rfl<|xne<|xcd 17 rfl (fun _ dcc1=>?_) fun _ dcc1=>?_
 refine xct rfl<|xsk<|xet<|xsq<|xbl<|xsq ?_;have hrt := VN hrow (l.getD k PtrD.zero);obtain ⟨g5, rfl, _, _, _, _⟩ := E.o.rowOpen 1 rfl (by omega);refine xrl<|xr 2 rfl<|xy rfl (vx 9 k 1 rfl)<|xy rfl (fun a J=>ylo (v := .string (Zn st (l.getD k PtrD.zero))) rfl (J.ev rfl) (E.o.elem1 Zf 1 rfl (ZfW (by omega)) rfl)) ?_;have hat := Zc9 htL k (by omega);refine yc (Jc (Zn st (l.getD k PtrD.zero)) _ hrt) func14 ?_;rintro _ w6 (⟨n, hno, hnb, rfl, hb⟩ | ⟨hnn, rfl, hb⟩);have hnk : ns.getD k none = some n := ZdS hat hno hnb;refine ⟨_, rfl, ?_⟩; replace E := Bx.mk (E.o.later hb);clear hb;refine xr 3 rfl ?_;refine yal z10 E ?_;clear E;intro w7 b6 E;refine yst E 0 ?_;clear E;intro w8 E;replace E:=E.nm;refine xr 1 rfl<|xne<|xrl<|xr 1 rfl<|Xw 0 10 E rfl rfl ?_;refine ybs Zb.cs 28 10 [n] E ?_;clear E;intro b7 w9 E;refine yap ZnL Zb.cs_len E 2 (St.rdN E.o Zb.cs_len 0 rfl) (ZcQ _) ?_;clear E;intro ao8 cp9 w10 E;refine xr 1 rfl<|xni<|xeb<|xet<|xrl<|xr 1 rfl<|xy rfl (vad rfl)<|xr 1 rfl<|xne ?_;have hz : xs.length + ([n]).length = (xs ++ ([n])).length := (length_append ..).symm;intro a J;rw [hz] at E J;have hnext : xs ++ ([n]) = (XN ns).take (k + 1) := by rw [hq]; exact ZcR (by omega) (Zhe hnk)
 replace E:=E.pks [5,5,5,5];exact ⟨k + 1, ⟨_, _, xs ++ ([n]), ⟨by omega, hnext⟩, J.less _ ⟨rfl, rfl, rfl, rfl, rfl, trivial⟩, (E.o.erS [5,4])⟩, (by omega)⟩;have hnk : ns.getD k none = none := ZdT hat hnn;refine ⟨_, rfl, ?_⟩; replace E := Bx.mk (E.o.later hb);clear hb;refine xr 3 rfl ?_;refine yal z10 E ?_;clear E;intro w11 b10 E;refine yst E 0 ?_;clear E;intro w12 E;replace E:=E.nm;refine xr 1 rfl<|xne<|xrl<|xr 1 rfl<|Xw 0 10 E rfl rfl ?_;refine ybs Zb.cs 28 10 [Zb.zero] E ?_;clear E;intro b11 w13 E;refine yap ZnL Zb.cs_len E 2 (St.rdN E.o Zb.cs_len 0 rfl) (ZcQ _) ?_;clear E;intro ao12 cp13 w14 E;refine xr 1 rfl<|xni<|xeb<|xet<|xrl<|xr 1 rfl<|xy rfl (vad rfl)<|xr 1 rfl<|xne ?_;have hz : xs.length + ([Zb.zero]).length = (xs ++ ([Zb.zero])).length := (length_append ..).symm;intro a J;rw [hz] at E J;have hnext : xs ++ ([Zb.zero]) = (XN ns).take (k + 1) := by rw [hq]; exact ZcR (by omega) (Zhf hnk)
 replace E:=E.pks [5,5,5,5];exact ⟨k + 1, ⟨_, _, xs ++ ([Zb.zero]), ⟨by omega, hnext⟩, J.less _ ⟨rfl, rfl, rfl, rfl, rfl, trivial⟩, (E.o.erS [5,4])⟩, (by omega)⟩;refine xcf rfl<|xex<|xtx<|xtx<|xbh<|xet<|xsr<|xr 2 rfl<|xne<|xre<|xb1 results42 rfl ?_;obtain rfl : k = ns.length := by omega
 have hq9 : xs = XN ns := by rw [hq, ← Vb, List.take_length]
 subst hq9;exact ⟨_, _, rfl, (E.o.erS [3,2,1])⟩
end Go.Proofs.YtfhdmfcfcgbgeaaGreatDoor
