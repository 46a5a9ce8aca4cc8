/- A part of the proof in YthnbgnjpbmnelaaGreatDoorTqX34. -/
import Derived.Shelf.Strings.Prefix
import Derived.Shelf.Strings.Repeat
import Derived.Test.YthnbgnjpbmnelaaGreatDoorTqX23
namespace Go.Proofs.YthnbgnjpbmnelaaGreatDoor
set_option maxHeartbeats 2000000
open Go.Proofs.Tryz
open _root_.ByteArray (size_extract)
open List (append_nil flatMap_cons flatMap_nil getD_eq_getElem?_getD length length_append length_cons length_map length_nil length_set length_take map_cons mem_append mem_cons mem_cons_of_mem mem_cons_self mem_singleton nil_append replicate)
set_option linter.unusedVariables false
set_option linter.unusedSimpArgs false
set_option maxRecDepth 100000
open Go.RowKit
def Zn (x : List PtrD) : List PtrD := x ++ replicate (16 - x.length) PtrD.zero
theorem Uz {x : List PtrD} (h : x.length ≤ 16) : (Zn x).length = 16 := by unfold Zn; rw [length_append, List.length_replicate]; omega
theorem ZbC {x : List PtrD} (h : ∀ p ∈ x, p.ok = true) : ∀ p ∈ Zn x, p.ok = true := fun p hp => by
 rcases mem_append.1 hp with hp | hp
 ·exact h p hp
 ·rw [List.eq_of_mem_replicate hp]; rfl
theorem ZeC (a0 : Option Addr) (c0 : Nat) (a1 : Option Addr) (c1 : Nat) (a2 : Option Addr) (c2 : Nat) (a4 : Option Addr) (c4 : Nat) (a6 : Option Addr) (c6 : Nat) (st : Za) (t : Zd) {x : List PtrD} (hx : downL (kidsS st) (depthN t.ah) [t.af] = some x) (hdep : t.aw = ((depthN t.ah : Nat) : Int)) (hxl : x.length ≤ 16) (w0 : World) (hR : Rd Zt 1 w0 a0 st.ac.length st.ac) (hrow : Xg st) : Calls prog 101 #[.agg #[.slice a0 st.ac.length c0, .slice a1 st.aa.ag.length c1, .slice a2 st.aa.am.length c2, .int .i64 st.ar, .slice a4 st.ai.length c4, .int .i64 st.ax, .slice a6 st.al.length c6, .bool st.az], .agg #[.int .i64 t.af.aB, .int .i64 t.af.aj, .int .i64 t.af.av, .int .i64 t.af.aC, .int .i64 t.af.aq, .int .i64 t.aw, .int .i64 t.ah]] w0 fun e w' => ∃ ao cp, e = .returned (.tuple #[.slice ao x.length cp, .bool true]) ∧ St w0 [Zg PtrD.cells 5 40 (.slice ao x.length cp) x] w' := by
 refine (ZbA a0 c0 a1 c1 a2 c2 a4 c4 a6 c6 st t hdep w0 hR hrow).mono ?_;rintro e w' (⟨l, h, ao, cp, he, hs⟩ | ⟨h, _⟩)
 ·rw [hx] at h
  obtain rfl := Option.some.inj h;exact ⟨ao, cp, he, hs⟩
 ·rw [hx] at h; cases h
theorem U4 (a0 : Option Addr) (c0 : Nat) (a1 : Option Addr) (c1 : Nat) (a2 : Option Addr) (c2 : Nat) (a4 : Option Addr) (c4 : Nat) (a6 : Option Addr) (c6 : Nat) (st : Za) (t : Zd) {x : List PtrD} (hx : downL (kidsS st) (depthN t.ah) [t.af] = some x) (hdep : t.aw = ((depthN t.ah : Nat) : Int)) (hxl : x.length ≤ 16) (w0 : World) (hR : Rd Zt 1 w0 a0 st.ac.length st.ac) (hrow : Xg st) : Calls prog 171 #[sV a0 c0 a1 c1 a2 c2 a4 c4 a6 c6 st, tV t] w0 fun e w' => ∃ ao cp, e = .returned (.slice ao (Zn x).length cp) ∧ St w0 [Zg PtrD.cells 5 40 (.slice ao (Zn x).length cp) (Zn x)] w' := by
 have HR := Bx.mk hR; clear hR;have E := Bx.mk (St.start w0);refine ent func171 ntmps171 ?_;refine xsr ?_;refine ybx E ?_;clear E;intro w1 b1 E;refine ybx E ?_;clear E;intro w2 b2 E;refine xr 1 rfl<|xne<|xsr<|Xw 1 8 E rfl rfl<|Xw 0 7 E rfl rfl ?_;refine yc (ZeC a0 c0 a1 c1 a2 c2 a4 c4 a6 c6 st t hx hdep hxl _ (HR.out.below E.o.bel) hrow) func101 ?_;rintro _ w3 ⟨ao, cp, rfl, hs⟩;refine ⟨_, rfl, ?_⟩; replace E := E.ad hs;clear hs;refine xr 5 rfl<|xne<|xsr ?_;refine yem 40 5 E ?_;clear E;intro w4 b3 E;refine xr 1 rfl ?_;replace E := Bx.mk (E.o.nilRow PtrD.cells 5 40 (some ⟨b3, 0, none⟩));intro a J;refine Xo rfl J rfl rfl rfl (J.ev rfl) (J.ev rfl) Xe PtrD.cells_len E.o 0 (xs := []) rfl (ys := x) (St.rdOf E.o PtrD.cells_len 1 rfl) (Zx _) (by unfold maxLen; (try simp only [length_append, length_cons, length_nil, nil_append, length_map, List.length_replicate]); omega) (by (try simp only [length_append, length_cons, length_nil, nil_append, length_map, List.length_replicate]); omega) ?_; clear J E a; intro ao5 cp6 w5 a J E; replace E := Bx.mk E;revert a;refine xr 1 rfl<|xy rfl (vn 40 5 rfl)<|xy rfl (fun a J=>ZJ (r := ((16 - x.length : Nat) : Int)) rfl (J.ev rfl) (J.ev rfl) ((Yb (by omega)).trans (by omega))) ?_;refine yc (Ub (16 - x.length) (by omega) _) func225 ?_;rintro _ w6 ⟨ao7, cp7, rfl, hs⟩;refine ⟨_, rfl, ?_⟩;replace E := E.ad hs;clear hs;intro a J;refine Xo rfl J rfl rfl rfl (J.ev rfl) (J.ev rfl) Xe PtrD.cells_len E.o 1 (xs := ([]) ++ x) rfl (ys := replicate (16 - x.length) PtrD.zero) (St.rdN E.o PtrD.cells_len 0 rfl) (Zx _) (by unfold maxLen; (try simp only [length_append, length_cons, length_nil, nil_append, length_map, List.length_replicate]); omega) (by (try simp only [length_append, length_cons, length_nil, nil_append, length_map, List.length_replicate]); omega) ?_; clear J E a; intro ao8 cp9 w7 a J E; replace E := Bx.mk E;revert a;refine xr 1 rfl<|xne<|xre<|xb1 results171 rfl ?_;have hwl : ([] ++ x).length + (replicate (16 - x.length) PtrD.zero).length = (Zn x).length := (length_append ..).symm; rw [hwl] at E ⊢;exact ⟨_, _, rfl, (E.o.erS [4,3,2,0])⟩
theorem ZdR {st : Za} {l : List PtrD} {k : Nat} (h : k < l.length) : (l.take k).map (Zm st) ++ [Zm st (l.getD k PtrD.zero)] = (l.take (k + 1)).map (Zm st) := by
 rw [List.take_succ_eq_append_getElem h, List.map_append, getD_eq_getElem?_getD, List.getElem?_eq_getElem h]; rfl
def Zga (st : Za) (t : Zd) (x : List PtrD) : List ByteArray := ((Zn x).take t.ah.toNat).map (Zm st)
theorem Zhi (a0 : Option Addr) (c0 : Nat) (a1 : Option Addr) (c1 : Nat) (a2 : Option Addr) (c2 : Nat) (a4 : Option Addr) (c4 : Nat) (a6 : Option Addr) (c6 : Nat) (st : Za) (t : Zd) {x : List PtrD} (hx : downL (kidsS st) (depthN t.ah) [t.af] = some x) (hdep : t.aw = ((depthN t.ah : Nat) : Int)) (hxl : x.length ≤ 16) (hxok : ∀ p ∈ x, p.ok = true) (hm : 0 ≤ t.ah ∧ t.ah ≤ 16) (w0 : World) (hR : Rd Zt 1 w0 a0 st.ac.length st.ac) (hrow : Xg st) : Calls prog 164 #[sV a0 c0 a1 c1 a2 c2 a4 c4 a6 c6 st, tV t] w0 fun e w' => ∃ ao cp, e = .returned (.slice ao (Zga st t x).length cp) ∧ St w0 [Zg Zt 1 9 (.slice ao (Zga st t x).length cp) (Zga st t x)] w' := by
 have HR := Bx.mk hR; clear hR;have E := Bx.mk (St.start w0);refine ent func164 ntmps164 ?_;refine xsr ?_;refine ybx E ?_;clear E;intro w1 b1 E;refine ybx E ?_;clear E;intro w2 b2 E;refine xr 1 rfl<|xne<|xsr ?_;refine yem 9 1 E ?_;clear E;intro w3 b3 E;refine xr 1 rfl<|xne<|xsr<|Xw 1 8 E rfl rfl<|Xw 0 7 E rfl rfl ?_;refine yc (U4 a0 c0 a1 c1 a2 c2 a4 c4 a6 c6 st t hx hdep hxl _ (HR.out.below E.o.bel) hrow) func171 ?_;rintro _ w4 ⟨ao4, cp4, rfl, hs⟩;refine ⟨_, rfl, ?_⟩;replace E := E.ad hs;clear hs;refine xr 1 rfl<|xne<|xsq<|xsq ?_;have hwl := Uz hxl; have hwok := ZbC hxok;refine xrl<|xr 1 rfl<|xne<|xbl ?_;replace E := Bx.mk (E.o.nilRow Zt 1 9 (some ⟨b3, 0, none⟩));intro a J;refine Zs (ι := Nat) (fun k a w => ∃ (ao : Option Addr) (cp : Nat) (xs : List ByteArray), (k ≤ t.ah.toNat ∧ xs = ((Zn x).take k).map (Zm st)) ∧ Fr 34 a [(2, .pointer (some ⟨b1, 0, none⟩)), (3, .pointer (some ⟨b2, 0, none⟩)), (6, .slice ao4 ((Zn x).length) cp4), (5, .slice ao xs.length cp), (7, .int .i64 (k : Int))] ∧ St w0 ([Zg Zt 1 9 (.slice ao xs.length cp) xs, Zg PtrD.cells 5 40 (.slice ao4 ((Zn x).length) cp4) (Zn x), boxA b2 7 42 (tV t), boxA b1 8 39 (sV a0 c0 a1 c1 a2 c2 a4 c4 a6 c6 st)]) w) (fun k => t.ah.toNat - k) 0 ⟨_, _, [], ⟨Nat.zero_le _, rfl⟩, J.ls _, E.o⟩ ?_;clear J E; clear a;rintro k a w5 ⟨ao, cp, xs, ⟨hk, hq⟩, J, E⟩;replace E := Bx.mk E;have hxl : xs.length = k := by rw [hq]; simp; omega
 revert a;refine xsq<|xsr<|xr 1 rfl<|Xf 6 rfl<|Xl 2 E rfl rfl<|xr 1 rfl<|xne<|xcd 17 rfl (fun _ dcc1=>?_) fun _ dcc1=>?_
 refine xct rfl<|xsk<|xet<|xsq<|xbl<|xsq ?_;obtain ⟨g5, rfl, _, _, _, _⟩ := E.o.rowOpen 1 rfl (by omega);intro a J;refine Yi (by kernel_rfl) (by kernel_rfl) E.o ?_;revert a;refine Qw 3 8 rfl rfl<|xqr 2 rfl<|xq rfl (fun E=>vx 40 k 5 rfl)<|xq rfl (fun E a J=>ylr (cs := pL ((Zn x).getD k PtrD.zero)) rfl (J.ev rfl) (E.elem PtrD.cells_len 1 rfl (Zh (xs := Zn x) (j := k) (d := PtrD.zero) (by omega)))) ?_;refine yq (fun _ E => (JM a0 c0 a1 c1 a2 c2 a4 c4 a6 c6 st ((Zn x).getD k PtrD.zero) _ (HR.out.below E.bel) hrow (hwok _ (YD (by omega))))) func102 ?_;refine xqr 5 rfl ?_;intro a J;refine wpQuiet_nil ?_; intro w6 E; replace E := Bx.mk E;revert a;refine xet<|xrl<|xr 2 rfl ?_;refine ybs Zt 9 1 [Zm st ((Zn x).getD k PtrD.zero)] E ?_;clear E;intro b6 w7 E;refine yap X1 Zi E 1 (St.rdN E.o Zi 0 rfl) (ZL _) ?_;clear E;intro ao7 cp8 w8 E;refine xr 1 rfl<|xni<|xeb<|xet<|xrl<|xr 1 rfl<|xy rfl (vad rfl)<|xr 1 rfl<|xne ?_;have hz : xs.length + ([Zm st ((Zn x).getD k PtrD.zero)]).length = (xs ++ ([Zm st ((Zn x).getD k PtrD.zero)])).length := (length_append ..).symm;intro a J;rw [hz] at E J;have hnext : xs ++ ([Zm st ((Zn x).getD k PtrD.zero)]) = ((Zn x).take (k + 1)).map (Zm st) := by rw [hq]; exact ZdR (by omega)
 replace E:=E.pks [4,4,4,4];exact ⟨k + 1, ⟨_, _, xs ++ ([Zm st ((Zn x).getD k PtrD.zero)]), ⟨by omega, hnext⟩, J.less _ ⟨rfl, rfl, rfl, rfl, rfl, trivial⟩, (E.o.erase 4)⟩, (by omega)⟩;refine xcf rfl<|xex<|xtx<|xtx<|xbh<|xet<|xsr<|xr 2 rfl<|xne<|xre<|xb1 results164 rfl ?_;obtain rfl : k = t.ah.toNat := by omega
 subst hq;exact ⟨_, _, rfl, (E.o.erS [3,2,1])⟩
theorem Zhj (size : Int) (k : Nat) (w0 : World) (hk : k ≤ 16) (hs : 12 * (k : Int) ≤ size ∧ size ≤ 1000000) : Calls prog 346 #[.int .i64 size, .int .i64 (k : Int)] w0 fun e w' => e = .returned (.int .i64 (longN size k : Int)) ∧ Below w0.heap.size w0 w' := by
 have E := Bx.mk (St.start w0);refine ent func346 ntmps346 ?_;refine xsr<|xr 1 rfl<|xne<|xsr<|xr 2 rfl<|xy rfl (fun a J=>Xm rfl (J.ev rfl) (J.ev rfl) (Yb (by omega)))<|xy rfl (fun a J=>ZJ rfl (J.ev rfl) (J.ev rfl) (Yb (by omega)))<|xy rfl (fun a J=>Zi9 rfl (J.ev rfl) (J.ev rfl))<|xr 1 rfl<|xne<|xre<|xb1 results346 rfl ?_;exact ⟨by show Ending.returned (.int .i64 _) = Ending.returned (.int .i64 _); unfold longN; congr 2; omega, E.o.bel⟩
theorem Zir (s : ByteArray) (w0 : World) (hs : s.size ≤ 1000000) : Calls prog 347 #[.string s] w0 fun e w' => e = .returned (.string (Zc4 s)) ∧ Below w0.heap.size w0 w' := by
 have E := Bx.mk (St.start w0);refine ent func347 ntmps347 ?_;refine xsr<|xr 1 rfl<|xne<|xsq<|xbl ?_;intro a J;refine Zs (ι := ByteArray) (fun r a w => (Zc4 r = Zc4 s ∧ r.size ≤ 1000000) ∧ Fr 20 a [(0, .string r)] ∧ St w0 ([]) w) (fun r => r.size) s ⟨⟨rfl, hs⟩, J.ls _, E.o⟩ ?_;clear J E; clear a;rintro r a w1 ⟨⟨hcz, hrs⟩, J, E⟩;replace E := Bx.mk E;revert a;refine xsq<|xsr<|xr 1 rfl<|xy rfl (fun a J=>ZI rfl (J.ev rfl) (by kernel_rfl))<|xr 2 rfl<|xcd 6 rfl (fun _ dcc1=>?_) fun _ dcc1=>?_
 refine xr 2 rfl<|xy rfl (fun a J=>ZI rfl (J.ev rfl) (by kernel_rfl))<|xy rfl (fun a J=>ZJ (r := ((r.size - 1 : Nat) : Int)) rfl (J.ev rfl) (J.ev rfl) ((Yb (by omega)).trans (by omega)))<|xy rfl (fun a J=>YG (i := (r.size - 1)) rfl (J.ev rfl) (J.ev rfl) (by kernel_rfl) (by omega) (by omega))<|xr 2 rfl<|xne<|xce 13 rfl (fun cc2 dcc2=>?_) fun cc2 dcc2=>?_;refine xct rfl<|xsk<|xet<|xbl<|xrl<|xr 2 rfl<|xy rfl (fun a J=>ZI rfl (J.ev rfl) (by kernel_rfl))<|xy rfl (fun a J=>ZJ (r := ((r.size - 1 : Nat) : Int)) rfl (J.ev rfl) (J.ev rfl) ((Yb (by omega)).trans (by omega)))<|xy rfl (fun a J=>JE (k := (r.size - 1)) rfl (J.ev rfl) (J.ev rfl) (by kernel_rfl) (by omega) (by omega))<|xr 1 rfl<|xni<|xeb<|xet ?_;have hlz : VO r = true := by rw [Zfa (by omega)]; exact cc2
 have hes : (r.extract 0 (r.size - 1)).size = r.size - 1 := by rw [size_extract]; omega
 intro a J;exact ⟨(r.extract 0 (r.size - 1)), ⟨⟨(Zkg hlz).trans hcz, by omega⟩, J.less _ ⟨rfl, trivial⟩, E.o⟩, (by omega)⟩;refine xcf rfl<|xex<|xtx<|xtx<|xbh<|xet<|xsr<|xr 2 rfl<|xne<|xre<|xb1 results347 rfl ?_;have hlz : VO r = false := by rw [Zfa (by omega)]; exact cc2
 exact ⟨by rw [← hcz, Zfb hlz], E.o.bel⟩;refine xr 7 rfl<|xne<|xcf rfl<|xex<|xtx<|xtx<|xbh<|xet<|xsr<|xr 2 rfl<|xne<|xre<|xb1 results347 rfl ?_;have hlz : VO r = false := Zkf (by omega);exact ⟨by rw [← hcz, Zfb hlz], E.o.bel⟩
structure TreeX (st : Za) (t : Zd) (x l : List PtrD) : Prop where
  dn : downL (kidsS st) (depthN t.ah) [t.af] = some x
  dep : t.aw = ((depthN t.ah : Nat) : Int)
  x16 : x.length ≤ 16
  xok : ∀ p ∈ x, p.ok = true
  lv : leavesF st t = some l
  len : l.length = t.ah.toNat
  many : 0 ≤ t.ah ∧ t.ah ≤ 16
  tk : (Zn x).take t.ah.toNat = l
theorem treeX {st : Za} {t : Zd} {l : List PtrD} (h0 : 0 ≤ st.ar) (h : leavesF st t = some l) : ∃ x, TreeX st t x l := by
 obtain ⟨x, ht, hd, hlb, hlx, hxl, hl⟩ := ZaO h;unfold topB at ht;simp only [Bool.and_eq_true, beq_iff_eq, decide_eq_true_eq] at ht;have hin := Zu ht.1;have hy := U2 (st := st) (n := depthN t.ah) (l := [t.af]) (fun p hp => by rw [mem_singleton.1 hp]; exact ht.2.2) h0;have hp4 := Zl4 (YK t.ah);have hx16 : x.length ≤ 16 := by rw [hxl]; exact hp4
 refine ⟨x, hy.1.trans hd, ht.2.1, hx16, fun p hp => (hy.2 x hd p hp).1, h, hl, hin, ?_⟩;have hle : t.ah.toNat ≤ x.length := by
  have := congrArg length hlx;rw [hl, length_take] at this
  omega
 rw [hlx];unfold Zn;rw [List.take_append_of_le_length hle]
theorem Zaf (a0 : Option Addr) (c0 : Nat) (a1 : Option Addr) (c1 : Nat) (a2 : Option Addr) (c2 : Nat) (a4 : Option Addr) (c4 : Nat) (a6 : Option Addr) (c6 : Nat) (st : Za) (t : Zd) {x l : List PtrD} (X : TreeX st t x l) (w0 : World) (hR : Rd Zt 1 w0 a0 st.ac.length st.ac) (hrow : Xg st) : Calls prog 164 #[.agg #[.slice a0 st.ac.length c0, .slice a1 st.aa.ag.length c1, .slice a2 st.aa.am.length c2, .int .i64 st.ar, .slice a4 st.ai.length c4, .int .i64 st.ax, .slice a6 st.al.length c6, .bool st.az], .agg #[.int .i64 t.af.aB, .int .i64 t.af.aj, .int .i64 t.af.av, .int .i64 t.af.aC, .int .i64 t.af.aq, .int .i64 t.aw, .int .i64 t.ah]] w0 fun e w' => ∃ ao cp, e = .returned (.slice ao (l.map (Zm st)).length cp) ∧ St w0 [Zg Zt 1 9 (.slice ao (l.map (Zm st)).length cp) (l.map (Zm st))] w' := by
 have h := Zhi a0 c0 a1 c1 a2 c2 a4 c4 a6 c6 st t X.dn X.dep X.x16 X.xok X.many w0 hR hrow;unfold Zga at h;rw [X.tk] at h;exact h
theorem Zgb {st : Za} {l : List PtrD} {k : Nat} (h : k < l.length) : (l.map (Zm st))[k]? = some (Zm st (l.getD k PtrD.zero)) := by
 rw [List.getElem?_map, getD_eq_getElem?_getD, List.getElem?_eq_getElem h]; rfl
theorem Zl8 {st : Za} {t : Zd} (h0 : 0 ≤ st.ar) (h : okS st t = true) : ∃ l, leavesF st t = some l := by
 rw [ZlX h0] at h;exact Option.isSome_iff_exists.1 h
theorem Zl9 {st : Za} {t : Zd} (h0 : 0 ≤ st.ar) (h : okS st t = false) : leavesF st t = none := by
 rw [ZlX h0] at h
 cases hl : leavesF st t with
 | none => rfl
 | some l => exfalso; have h2 : (leavesF st t).isSome = false := h; rw [hl] at h2; cases h2
theorem ZaU {n : Zc} (h : n.ok = true) (hk : (n.ak == 1) = true) : 0 ≤ n.av ∧ n.av ≤ 192 ∧ n.au.ah = (n.av + 11) / 12 := by
 have a := Zc.ok_is h;have s := a.small;have k1 : n.ak = 1 := beq_iff_eq.1 hk;have hz := s.size; have hi := s.is; have hm := a.tmany;rw [k1, Zio] at hz hi;rw [k1] at hm
 omega
def ZbD (st : Za) (text : ByteArray) (level : Int) : Int := if st.az && (level == 0) then Zao st text else -1
def Qd (st : Za) (text : ByteArray) (level : Int) : Int := if ZbD st text level < 0 then J6 st.aa else ZbD st text level
def Za.mayW (st : Za) (text : ByteArray) (level : Int) : Bool := st.ok && (inB text.size 1 128 && (inB level 0 2 && decide (writeAt st text level < 64)))
def Za.wrote (st : Za) (text : ByteArray) (level : Int) : Za := if st.mayW text level then st.putAt (writeAt st text level) (st.ac.set (writeAt st text level) text) else Za.zero
def Za.wptr (st : Za) (text : ByteArray) (level : Int) : PtrD := if st.mayW text level then YM (writeAt st text level : Nat) st.ar level text else PtrD.zero
theorem XY {a b : ByteArray} (h : (a.toList == b.toList) = true) : a = b := by
 have h := eq_of_beq h;rw [ByteArray.toList_eq, ByteArray.toList_eq] at h;exact ByteArray.ext (Array.toList_inj.1 h)
section
variable {st : Za} {text : ByteArray} {level : Int}
theorem ZdS (h : Q8 st text level < 64) : Zap st text (Q8 st text level) = true := by
 unfold Q8 at h ⊢
 split
 ·rename_i hs
  rw [if_pos hs] at h;exact Zdl _ 64 0 (by omega)
 ·rename_i hs
  rw [if_neg hs] at h
  omega
theorem Zma (hok : st.ok = true) (hsz : inB text.size 1 128 = true) (hlv : inB level 0 2 = true) {i : Nat} (hi : i < 64) (hw : writeAt st text level = i) :
  st.mayW text level = true ∧ st.wrote text level = st.putAt i (st.ac.set i text) ∧ st.wptr text level = YM (i : Int) st.ar level text ∧ Xu (i : Int) st.ar level text = true ∧ (Q8 st text level < 64 → st.ac.set i text = st.ac) := by
 have hO := Za.ok_spec hok;have hP := Zq.ok_spec hO.space;have hm : st.mayW text level = true := by unfold Za.mayW; rw [hok, hsz, hlv, hw]; simp [hi]
 have h8 : 8 ≤ i := by
  by_cases hl : Q8 st text level < 64
  ·have := ZdS hl
   have e : Q8 st text level = i := by unfold writeAt at hw; rw [if_pos hl] at hw; exact hw
   rw [e] at this;unfold Zap at this;simp only [Bool.and_eq_true, decide_eq_true_eq] at this;rcases Nat.lt_or_ge i 8 with h | h
   ·have := (hP.each i hi).2.2.2.2 h; omega
   ·exact h
  ·unfold writeAt at hw
   rw [if_neg hl] at hw;have := X0 (Zbk st) 56 8
   omega
 refine ⟨hm, by unfold Za.wrote; rw [hm, hw]; rfl, by unfold Za.wptr; rw [hm, hw]; rfl, ?_, fun hl => ?_⟩
 ·have := Zls text
  have h1 := hO.txg;have h2 := Zu hsz;have h3 := Zu hlv;unfold Xu PtrD.ok YM;rw [hsz];dsimp only;rw [XF (by omega) (by omega), XF (by omega) (by omega), XF (by omega) (by omega), XF (by omega) (by omega)]
  simp
 ·have := ZdS hl
  have e : Q8 st text level = i := by unfold writeAt at hw; rw [if_pos hl] at hw; exact hw
  rw [e] at this;unfold Zap at this;simp only [Bool.and_eq_true] at this;have h1 := XY this.1.1.2;have hl2 : i < st.ac.length := by rw [hO.rows]; exact hi
  refine List.ext_getElem (by simp) fun j h2 h3 => ?_;rw [List.getElem_set]
  split
  ·rename_i e2
   subst e2;rw [← h1]; simp [List.getD, hl2]
  ·rfl
theorem Zox (hok : st.ok = true) (hsz : inB text.size 1 128 = true) : (Qd st text level < 0 → writeAt st text level = 64) ∧ ∀ i : Nat, Qd st text level = i → writeAt st text level = i := by
 have hO := Za.ok_spec hok;have hP := Zq.ok_spec hO.space;have hs := Zu hsz;have hlike : ZP (Zap st text) 64 0 = ZP (J5 st text) 56 8 := by
  have h0 : ZP (Zap st text) (8 + 56) 0 = ZP (Zap st text) 56 (0 + 8) := ZgP 8 56 0 fun i _ h2 => by
   have := (hP.each i (by omega)).2.2.2.2 (by omega);unfold Zap;rw [this]; rfl
  refine h0.trans (Zbj 56 8 fun i h1 h2 => ?_);have hi : i < 64 := by omega
  have he := hP.each i hi;have hr := VZ hO.each hi;unfold Zap J5
  cases h3 : ((st.ac.getD i ByteArray.empty).toList == text.toList) with
  | false => cases decide (0 < st.aa.ag.getD i 0) <;> rfl
  | true =>
   have h4 := XY h3;unfold Qu at hr;simp only [Bool.and_eq_true, beq_iff_eq, decide_eq_true_eq, Bool.not_eq_true', bne_iff_ne] at hr;have h5 : st.aa.ag.getD i 0 ≠ 0 := fun h0 => by
    have hz : (st.ac.getD i ByteArray.empty).size ≠ 0 := by rw [h4]; omega
    simp_all
   have h6 : decide (0 < st.aa.ag.getD i 0) = true := decide_eq_true (by omega);rw [h6]; rfl
 have hfree : ZP (Zbk st) 56 8 = ZP (Vt st.aa) 56 8 := Zbj 56 8 fun i h1 h2 => by
  have he := hP.each i (by omega);unfold Zbk Vt
  by_cases h0 : st.aa.ag.getD i 0 = 0
  ·rw [h0]; rfl
  ·have h1 : decide (0 < st.aa.ag.getD i 0) = true := decide_eq_true (by omega)
   rw [h1, beq_eq_false_iff_ne.2 h0]; rfl
 have hb1 := X0 (J5 st text) 56 8;have hb2 := X0 (Vt st.aa) 56 8;unfold Qd writeAt ZbD Q8 Zao J6;rw [hlike, hfree]
 cases hsm : (st.az && (level == 0)) with
 | true =>
  simp only [if_true];unfold ZfR
  constructor
  ·split <;> split <;> (try split) <;> omega
  ·intro i; split <;> split <;> (try split) <;> omega
 | false =>
  simp only [Bool.false_eq_true, if_false];unfold ZfR
  constructor
  ·simp; split <;> omega
  ·intro i; simp; split <;> omega
end
theorem Zh4.ok {s : Zq} (h : Zh4 s) : s.ok = true := by
 unfold Zq.ok;simp only [Bool.and_eq_true, beq_iff_eq];refine ⟨⟨h.refs, h.last⟩, ?_⟩;unfold Q6;rw [List.all_eq_true];intro i hi;have hi := List.mem_range.1 hi;have e := h.each i hi;rw [ZeL hi];unfold ZfK;simp only [Bool.and_eq_true, Bool.or_eq_true, decide_eq_true_eq, bne_iff_ne, beq_iff_eq, Bool.not_eq_true', decide_eq_false_iff_not];refine ⟨XF (by omega) (by omega), XF (by omega) (by omega), ?_, ?_⟩
 ·by_cases h0 : s.ag.getD i 0 = 0
  ·exact .inr (e.2.2.2.1 h0)
  ·exact .inl h0
 ·by_cases h8 : i < 8
  ·exact .inl (by rw [e.2.2.2.2 h8]; exact Int.le_refl 0)
  ·exact .inr (by omega)
theorem ZfL.ok {st : Za} (h : ZfL st) : st.ok = true := by
 unfold Za.ok;simp only [Bool.and_eq_true, beq_iff_eq];exact ⟨h.rows, h.space, XF h.txg.1 h.txg.2, XF h.keep.1 h.keep.2, h.each, h.gone, h.dead, h.owed⟩
theorem QR {st : Za} : Qv st 64 = true ↔ ∀ i, i < 64 → (st.ac.getD i ByteArray.empty).size ≤ 128 ∧ ((st.ac.getD i ByteArray.empty).size = 0 ↔ st.aa.ag.getD i 0 = 0) ∧ st.aa.am.getD i 0 ≤ st.ar := by
 constructor
 ·intro h i hi
  have := VZ h hi;unfold Qu at this;simp only [Bool.and_eq_true, decide_eq_true_eq, beq_iff_eq] at this;refine ⟨this.1, ?_, this.2.2⟩;have h2 := this.2.1
  constructor
  ·intro e; rw [beq_iff_eq.2 e] at h2; exact beq_iff_eq.1 h2.symm
  ·intro e; rw [beq_iff_eq.2 e] at h2; exact beq_iff_eq.1 h2
 ·intro h
  unfold Qv;rw [List.all_eq_true];intro i hi;obtain ⟨a, b, c⟩ := h i (List.mem_range.1 hi);unfold Qu;simp only [Bool.and_eq_true, decide_eq_true_eq, beq_iff_eq];refine ⟨a, ?_, c⟩;rw [Bool.eq_iff_iff];simp only [beq_iff_eq]; exact b
theorem YQ {refs : List Int} {ps : List PtrD} : Vo refs ps = true ↔ ∀ i, i < 64 → (cnt ps i : Int) ≤ refs.getD i 0 := by
 unfold Vo;rw [List.all_eq_true];exact ⟨fun h i hi => by have := h i (List.mem_range.2 hi); simpa using this, fun h i hi => by have := h i (List.mem_range.1 hi); simpa using this⟩
theorem YT (p : PtrD) (ps : List PtrD) (i : Nat) : cnt (p :: ps) i = (if p.aB = (i : Int) then 1 else 0) + cnt ps i := by
 rw [show p :: ps = [p] ++ ps from rfl, Zj]
 congr 1
 unfold cnt
 by_cases h : p.aB = (i : Int) <;> simp [h]
theorem Jg (i : Nat) : cnt [] i = 0 := rfl
theorem Zjo {ps : List PtrD} {q : PtrD} {i : Nat} (hq : q ∈ ps) (h : q.aB = (i : Int)) : 1 ≤ cnt ps i := by
 unfold cnt;exact List.length_pos_of_mem (List.mem_filter.2 ⟨hq, by simp [h]⟩)
theorem XL {α : Type} {xs : List α} {i j : Nat} {x d : α} (hi : i < xs.length) : (xs.set i x).getD j d = if i = j then x else xs.getD j d := by
 by_cases h : i = j
 ·subst h; rw [if_pos rfl, getD_eq_getElem?_getD, List.getElem?_set_self hi]; rfl
 ·rw [if_neg h, getD_eq_getElem?_getD, getD_eq_getElem?_getD, List.getElem?_set_ne h]
structure Inv (st : Za) (X : List PtrD) : Prop where
  ok : st.ok = true
  owes : ∀ i : Nat, 8 ≤ i → i < 64 → ((cnt X i + cnt (st.ai ++ st.al) i : Nat) : Int) ≤ st.aa.ag.getD i 0
structure Z1 (st st' : Za) (X : List PtrD) : Prop where
  row : ∀ q ∈ X, q.ok = true → q.hole = false → Yj st' q = Yj st q
  txg : st'.ar = st.ar
  keep : st'.ax = st.ax
  same : st'.az = st.az
theorem Z1.refl (st : Za) (X : List PtrD) : Z1 st st X := ⟨fun _ _ _ _ => rfl, rfl, rfl, rfl⟩
theorem Z1.trans {a b c : Za} {X : List PtrD} (h : Z1 a b X) (k : Z1 b c X) : Z1 a c X :=
 ⟨fun q hq ho hh => (k.row q hq ho hh).trans (h.row q hq ho hh), k.txg.trans h.txg, k.keep.trans h.keep, k.same.trans h.same⟩
theorem Z1.mono {a b : Za} {X Y : List PtrD} (h : Z1 a b X) (hs : ∀ q ∈ Y, q ∈ X) : Z1 a b Y := ⟨fun q hq => h.row q (hs q hq), h.txg, h.keep, h.same⟩
theorem Inv.mono {st : Za} {X Y : List PtrD} (h : Inv st X) (hc : ∀ i : Nat, 8 ≤ i → i < 64 → cnt Y i ≤ cnt X i) : Inv st Y :=
 ⟨h.ok, fun i h8 hi => by have := h.owes i h8 hi; have := hc i h8 hi; omega⟩
theorem Zis {p : PtrD} (h : p.ok = true) (hh : p.hole = false) : 8 ≤ p.aB ∧ p.aB ≤ 63 := by
 unfold PtrD.ok at h;rw [hh, Bool.false_or] at h;simp only [Bool.and_eq_true] at h;exact Zu h.1.1.1.1
theorem ZaV {q : PtrD} (ho : q.ok = true) (hh : q.hole = false) : ∃ i : Nat, 8 ≤ i ∧ i < 64 ∧ q.aB = (i : Int) := by
 obtain ⟨h1, h2⟩ := Zis ho hh;exact ⟨q.aB.toNat, by omega, by omega, by omega⟩
theorem Inv.live {st : Za} {X : List PtrD} (h : Inv st X) {q : PtrD} (hq : q ∈ X) {i : Nat} (h8 : 8 ≤ i) (hi : i < 64) (e : q.aB = (i : Int)) : 1 ≤ st.aa.ag.getD i 0 := by
 have := h.owes i h8 hi;have := Zjo hq e
 omega
theorem Ud {st : Za} {q : PtrD} {i : Nat} (e : q.aB = (i : Int)) : Yj st q = st.ac.getD i ByteArray.empty := by unfold Yj; rw [e, Int.toNat_natCast]
section
variable {st : Za} {X : List PtrD} {text : ByteArray} {level : Int} {i : Nat}
theorem Zfc (hok : st.ok = true) (hi : i < 64) (hw : writeAt st text level = i) : 8 ≤ i ∧ (st.aa.ag.getD i 0 = 0 ∧ st.aa.am.getD i 0 = 0 ∨ 0 < st.aa.ag.getD i 0 ∧ st.ac.getD i ByteArray.empty = text ∧ st.aa.ag.getD i 0 < st.ar) := by
 have hO := Za.ok_spec hok;have hP := Zq.ok_spec hO.space
 by_cases hl : Q8 st text level < 64
 ·have := ZdS hl
  have e : Q8 st text level = i := by unfold writeAt at hw; rw [if_pos hl] at hw; exact hw
  rw [e] at this;unfold Zap at this;simp only [Bool.and_eq_true, decide_eq_true_eq] at this;refine ⟨?_, .inr ⟨this.1.1.1, XY this.1.1.2, this.2⟩⟩;rcases Nat.lt_or_ge i 8 with h | h
  ·have := (hP.each i hi).2.2.2.2 h; omega
  ·exact h
 ·unfold writeAt at hw
  rw [if_neg hl] at hw;have hb := X0 (Zbk st) 56 8;have hh := Zdl (Zbk st) 56 8 (by omega);rw [hw] at hh;unfold Zbk at hh;have h0 := (hP.each i hi).1;rw [Bool.not_eq_true'] at hh;have hz : st.aa.ag.getD i 0 = 0 := by have := of_decide_eq_false hh; omega
  exact ⟨by omega, .inl ⟨hz, (hP.each i hi).2.2.2.1 hz⟩⟩
theorem Inv.write (h : Inv st X) (hsz : inB text.size 1 128 = true) (hlv : inB level 0 2 = true) (hi : i < 64) (hw : writeAt st text level = i) :
  Inv (st.putAt i (st.ac.set i text)) (YM (i : Int) st.ar level text :: X) ∧ Z1 st (st.putAt i (st.ac.set i text)) X ∧ Yj (st.putAt i (st.ac.set i text)) (YM (i : Int) st.ar level text) = text := by
 obtain ⟨h8, hrow⟩ := Zfc h.ok hi hw;have hO := Za.ok_spec h.ok;have hP := Zq.ok_spec hO.space;have hs := Zu hsz;have hl0 : i < st.ac.length := by rw [hO.rows]; exact hi
 have hl1 : i < st.aa.ag.length := by rw [hP.refs]; exact hi
 have hl2 : i < st.aa.am.length := by rw [hP.last]; exact hi
 have hrefs : ∀ j : Nat, (st.putAt i (st.ac.set i text)).aa.ag.getD j 0 = if i = j then st.aa.ag.getD i 0 + 1 else st.aa.ag.getD j 0 := fun j => XL hl1
 have hlast : ∀ j : Nat, (st.putAt i (st.ac.set i text)).aa.am.getD j 0 = if i = j then st.ar else st.aa.am.getD j 0 := fun j => XL hl2
 have hrows : ∀ j : Nat, (st.putAt i (st.ac.set i text)).ac.getD j ByteArray.empty = if i = j then text else st.ac.getD j ByteArray.empty := fun j => XL hl0
 have hEi := hP.each i hi;have hlt : st.aa.ag.getD i 0 < st.ar := by rcases hrow with ⟨e, _⟩ | ⟨_, _, e⟩ <;> have := hO.txg <;> omega
 have hO2 : ZfL (st.putAt i (st.ac.set i text)) := by
  refine ⟨by show (st.ac.set i text).length = 64; rw [length_set]; exact hO.rows, Zh4.ok ⟨?_, ?_, ?_⟩, hO.txg, hO.keep, ?_, hO.gone, hO.dead, ?_⟩
  ·show (st.aa.ag.set _ _).length = 64; rw [length_set]; exact hP.refs
  ·show (st.aa.am.set _ _).length = 64; rw [length_set]; exact hP.last
  ·intro j hj
   rw [hrefs, hlast];have := hP.each j hj;have := hO.txg
   split
   ·rename_i e; subst e
    refine ⟨by omega, by omega, by omega, by omega, by omega⟩
   ·exact hP.each j hj
  ·rw [QR]
   intro j hj;rw [hrows, hrefs, hlast];have := QR.1 hO.each j hj
   split
   ·rename_i e; subst e
    exact ⟨by omega, ⟨by omega, by omega⟩, Int.le_refl _⟩
   ·exact this
  ·rw [YQ]
   intro j hj;rw [hrefs];have := YQ.1 hO.owed j hj;show (cnt (st.ai ++ st.al) j : Int) ≤ _
   split
   ·rename_i e; subst e; omega
   ·exact this
 refine ⟨⟨hO2.ok, fun j h8j hj => ?_⟩, ⟨fun q hq ho hh => ?_, rfl, rfl, rfl⟩, ?_⟩
 ·rw [hrefs, YT]
  have := h.owes j h8j hj;show ((((if (i : Int) = (j : Int) then 1 else 0) + cnt X j + cnt (st.ai ++ st.al) j : Nat)) : Int) ≤ _
  by_cases e : i = j
  ·subst e; rw [if_pos rfl, if_pos rfl]; omega
  ·rw [if_neg (by omega), if_neg e]; omega
 ·obtain ⟨j, h8j, hj, e⟩ := ZaV ho hh
  rw [Ud e, Ud e, hrows]
  by_cases ej : i = j
  ·subst ej
   rw [if_pos rfl];rcases hrow with ⟨e0, _⟩ | ⟨_, e1, _⟩
   ·have := h.live hq h8j hj e; omega
   ·exact e1.symm
  ·rw [if_neg ej]
 ·rw [Ud (i := i) rfl, hrows, if_pos rfl]
theorem Inv.free {p : PtrD} (h : Inv st (p :: X)) (ho : p.ok = true) : Inv (st.free p) X ∧ Z1 st (st.free p) X := by
 have hO := Za.ok_spec h.ok;have hP := Zq.ok_spec hO.space
 cases hh : p.hole with
 | true =>
  rw [Zca hh];exact ⟨h.mono fun i _ _ => by rw [YT]; omega, Z1.refl _ _⟩
 | false =>
  obtain ⟨i, h8, hi, e⟩ := ZaV ho hh;have hown := h.owes i h8 hi;rw [YT, if_pos e] at hown;have hone : ∀ j : Nat, cnt (p :: X) j = (if i = j then 1 else 0) + cnt X j := fun j => by
   rw [YT, e]; congr 1; by_cases ej : i = j
   ·rw [if_pos ej, if_pos (by omega)]
   ·rw [if_neg ej, if_neg (by omega)]
  by_cases h1 : p.aj ≤ st.ax
  ·rw [Zcb hh h1]
   have hc : ∀ j, cnt (st.ai ++ (st.al ++ [p])) j = cnt (st.ai ++ st.al) j + (if i = j then 1 else 0) := fun j => by
    rw [← List.append_assoc, Vn, e]; congr 1; by_cases ej : i = j
    ·rw [if_pos ej, if_pos (by omega)]
    ·rw [if_neg ej, if_neg (by omega)]
   refine ⟨⟨ZfL.ok ⟨hO.rows, hO.space, hO.txg, hO.keep, hO.each, hO.gone, ?_, ?_⟩, fun j h8j hj => ?_⟩, ⟨fun _ _ _ _ => rfl, rfl, rfl, rfl⟩⟩
   ·show (st.al ++ [p]).all _ = true
    rw [List.all_append, hO.dead, Bool.true_and, List.all_cons, List.all_nil, Bool.and_true];unfold YA; rw [ho, hh, decide_eq_true h1]; rfl
   ·rw [YQ]; intro j hj
    show (cnt (st.ai ++ (st.al ++ [p])) j : Int) ≤ _;rw [hc];have := YQ.1 hO.owed j hj
    split
    ·rename_i ej; subst ej; show _ ≤ st.aa.ag.getD i 0; omega
    ·exact this
   ·show (((cnt X j + cnt (st.ai ++ (st.al ++ [p])) j : Nat)) : Int) ≤ st.aa.ag.getD j 0
    have := h.owes j h8j hj;rw [hone] at this; rw [hc]; omega
  ·by_cases h2 : p.aj < st.ar
   ·rw [Zcc hh h1 h2]
    have hc : ∀ j, cnt ((st.ai ++ [p]) ++ st.al) j = cnt (st.ai ++ st.al) j + (if i = j then 1 else 0) := fun j => by
     rw [Zj, Vn, Zj, e]
     by_cases ej : i = j
     ·rw [if_pos ej, if_pos (by omega)]; omega
     ·rw [if_neg ej, if_neg (by omega)]; omega
    refine ⟨⟨ZfL.ok ⟨hO.rows, hO.space, hO.txg, hO.keep, hO.each, ?_, hO.dead, ?_⟩, fun j h8j hj => ?_⟩, ⟨fun _ _ _ _ => rfl, rfl, rfl, rfl⟩⟩
    ·show (st.ai ++ [p]).all _ = true
     rw [List.all_append, List.all_cons, List.all_nil, Bool.and_true, Bool.and_eq_true];refine ⟨hO.gone, ?_⟩;unfold YA; rw [ho, hh, decide_eq_true (by show p.aj ≤ st.ar - 1; omega)]; rfl
    ·rw [YQ]; intro j hj
     show (cnt ((st.ai ++ [p]) ++ st.al) j : Int) ≤ _;rw [hc];have := YQ.1 hO.owed j hj
     split
     ·rename_i ej; subst ej; show _ ≤ st.aa.ag.getD i 0; omega
     ·exact this
    ·show (((cnt X j + cnt ((st.ai ++ [p]) ++ st.al) j : Nat)) : Int) ≤ st.aa.ag.getD j 0
     have := h.owes j h8j hj;rw [hone] at this; rw [hc]; omega
   ·rw [Zae hh h1 h2, e, Int.toNat_natCast]
    have hl0 : i < st.ac.length := by rw [hO.rows]; exact hi
    have hl1 : i < st.aa.ag.length := by rw [hP.refs]; exact hi
    have hl2 : i < st.aa.am.length := by rw [hP.last]; exact hi
    have hrefs : ∀ j : Nat, (st.aa.give i).ag.getD j 0 = if i = j then st.aa.ag.getD i 0 - 1 else st.aa.ag.getD j 0 := fun j => XL hl1
    have hlast : ∀ j : Nat, (st.aa.give i).am.getD j 0 = if i = j ∧ st.aa.ag.getD i 0 - 1 = 0 then 0 else st.aa.am.getD j 0 := fun j => by
     unfold Zq.give; dsimp only
     by_cases ez : st.aa.ag.getD i 0 - 1 = 0
     ·rw [if_pos ez, XL hl2]; simp only [ez, and_true]
     ·rw [if_neg ez, if_neg fun k => ez k.2]
    have hrows : ∀ j : Nat, (Yk st.ac st.aa i).getD j ByteArray.empty = if i = j ∧ st.aa.ag.getD i 0 - 1 = 0 then ByteArray.empty else st.ac.getD j ByteArray.empty := fun j => by
     unfold Yk
     by_cases ez : st.aa.ag.getD i 0 - 1 = 0
     ·rw [if_pos ez, XL hl0]; simp only [ez, and_true]
     ·rw [if_neg ez, if_neg fun k => ez k.2]
    have hge : 1 ≤ st.aa.ag.getD i 0 := by omega
    refine ⟨⟨ZfL.ok ⟨by show (Yk _ _ _).length = 64; rw [Xq]; exact hO.rows, Zh4.ok ⟨by rw [Zq.give_refs]; exact hP.refs, by rw [Zq.give_last]; exact hP.last, ?_⟩, hO.txg, hO.keep, ?_, hO.gone, hO.dead, ?_⟩, fun j h8j hj => ?_⟩, ⟨fun q hq hqo hqh => ?_, rfl, rfl, rfl⟩⟩
    ·intro j hj
     have hE := hP.each j hj;rw [hrefs, hlast]
     by_cases ej : i = j
     ·subst ej
      by_cases ez : st.aa.ag.getD i 0 - 1 = 0
      ·rw [if_pos rfl, if_pos ⟨rfl, ez⟩]; refine ⟨by omega, by omega, by omega, fun _ => rfl, by omega⟩
      ·rw [if_pos rfl, if_neg fun k => ez k.2]; refine ⟨by omega, by omega, by omega, by omega, by omega⟩
     ·rw [if_neg ej, if_neg fun k => ej k.1]; exact hE
    ·rw [QR]
     intro j hj;have hE := QR.1 hO.each j hj;show ((Yk st.ac st.aa i).getD j ByteArray.empty).size ≤ 128 ∧ (((Yk st.ac st.aa i).getD j ByteArray.empty).size = 0 ↔ (st.aa.give i).ag.getD j 0 = 0) ∧ (st.aa.give i).am.getD j 0 ≤ st.ar;rw [hrows, hrefs, hlast];have := hO.txg
     by_cases ej : i = j
     ·subst ej
      by_cases ez : st.aa.ag.getD i 0 - 1 = 0
      ·rw [if_pos rfl, if_pos ⟨rfl, ez⟩, if_pos ⟨rfl, ez⟩]; exact ⟨Nat.zero_le _, ⟨fun _ => ez, fun _ => rfl⟩, by omega⟩
      ·rw [if_pos rfl, if_neg fun k => ez k.2, if_neg fun k => ez k.2]; refine ⟨hE.1, ⟨fun k => ?_, fun k => absurd k ez⟩, hE.2.2⟩
       have := hE.2.1.1 k; omega
     ·rw [if_neg ej, if_neg fun k => ej k.1, if_neg fun k => ej k.1]; exact hE
    ·rw [YQ]; intro j hj
     show (cnt (st.ai ++ st.al) j : Int) ≤ (st.aa.give i).ag.getD j 0;rw [hrefs];have := YQ.1 hO.owed j hj
     split
     ·rename_i ej; subst ej; omega
     ·exact this
    ·show (((cnt X j + cnt (st.ai ++ st.al) j : Nat)) : Int) ≤ (st.aa.give i).ag.getD j 0
     rw [hrefs];have := h.owes j h8j hj;rw [hone] at this
     by_cases ej : i = j
     ·rw [if_pos ej] at this ⊢; subst ej; omega
     ·rw [if_neg ej] at this ⊢; omega
    ·obtain ⟨j, h8j, hj, eq⟩ := ZaV hqo hqh
     rw [Ud eq, Ud eq];show (Yk st.ac st.aa i).getD j _ = _;rw [hrows]
     by_cases ej : i = j ∧ st.aa.ag.getD i 0 - 1 = 0
     ·obtain ⟨rfl, ez⟩ := ej
      have := Zjo hq eq
      omega
     ·rw [if_neg ej]
end
theorem Inv.step_gone {st : Za} {X : List PtrD} {p : PtrD} {r : List PtrD} (h : Inv st X) (hg : st.ai = p :: r) :
    Inv { st with ac := (Un (st.ac, st.aa) p).1, aa := (Un (st.ac, st.aa) p).2, ai := r } X ∧ Z1 st { st with ac := (Un (st.ac, st.aa) p).1, aa := (Un (st.ac, st.aa) p).2, ai := r } X := by
  have hO := Za.ok_spec h.ok;have hgo := hO.gone;rw [hg, List.all_cons, Bool.and_eq_true] at hgo;have hp := hgo.1;unfold YA at hp;simp only [Bool.and_eq_true, Bool.not_eq_true', decide_eq_true_eq] at hp;obtain ⟨hpo, hph, hpb⟩ := hp;obtain ⟨a, h8, ha, e⟩ := ZaV hpo hph;have hin := Za9 (p := p) (m := st.ar - 1) (by unfold YA; rw [hpo, hph, decide_eq_true hpb]; rfl);have hc : ∀ j, cnt (st.ai ++ st.al) j = (if a = j then 1 else 0) + cnt (r ++ st.al) j := fun j => by
    rw [hg, List.cons_append, YT, e]; congr 1; by_cases ej : a = j
    · rw [if_pos ej, if_pos (by omega)]
    · rw [if_neg ej, if_neg (by omega)]
  let q : PtrD := { p with aj := st.ar }
  have hqh : q.hole = false := by
    cases hq : q.hole with
    | false => rfl
    | true => have := YI hq; have e2 : q.aB = 0 := by rw [this]; rfl
              have e3 : q.aB = p.aB := rfl
              omega
  have hqo : q.ok = true := by
    have h1 := hpo;unfold PtrD.ok at h1 ⊢;rw [hph, Bool.false_or] at h1;rw [hqh, Bool.false_or];simp only [Bool.and_eq_true] at h1 ⊢;exact ⟨⟨⟨⟨h1.1.1.1.1, XF hO.txg.1 hO.txg.2⟩, h1.1.1.2⟩, h1.1.2⟩, h1.2⟩
  have h0 : Inv { st with ai := r } (q :: X) := by
    refine ⟨ZfL.ok ⟨hO.rows, hO.space, hO.txg, hO.keep, hO.each, hgo.2, hO.dead, ?_⟩, fun j h8j hj => ?_⟩
    · rw [YQ]; intro j hj
      have := YQ.1 hO.owed j hj;rw [hc] at this;show (cnt (r ++ st.al) j : Int) ≤ st.aa.ag.getD j 0
      omega
    · have := h.owes j h8j hj
      rw [hc] at this;rw [YT];show (((if p.aB = (j : Int) then 1 else 0) + cnt X j + cnt (r ++ st.al) j : Nat) : Int) ≤ st.aa.ag.getD j 0;rw [e]
      by_cases ej : a = j
      · rw [if_pos ej] at this; rw [if_pos (by omega)]; omega
      · rw [if_neg ej] at this; rw [if_neg (by omega)]; omega
  have h1 := h0.free hqo;rw [Zae hqh (by show ¬ st.ar ≤ st.ax; have := hO.keep; omega) (by show ¬ st.ar < st.ar; omega)] at h1;exact ⟨h1.1, ⟨h1.2.row, rfl, rfl, rfl⟩⟩
theorem Inv.drops : ∀ {g : List PtrD} {st : Za} {X : List PtrD}, Inv st X → st.ai = g → Inv { st with ac := (Yn (st.ac, st.aa) g).1, aa := (Yn (st.ac, st.aa) g).2, ai := [] } X ∧ Z1 st { st with ac := (Yn (st.ac, st.aa) g).1, aa := (Yn (st.ac, st.aa) g).2, ai := [] } X
 | [], st, X, h, hg => by
  have e : ({ st with ac := (Yn (st.ac, st.aa) []).1, aa := (Yn (st.ac, st.aa) []).2, ai := [] } : Za) = st := by
   cases st; simp only [Yn, List.foldl_nil] at hg ⊢; subst hg; rfl
  rw [e]; exact ⟨h, Z1.refl _ _⟩
 | p :: r, st, X, h, hg => by
  obtain ⟨h1, k1⟩ := h.step_gone hg;obtain ⟨h2, k2⟩ := Inv.drops h1 rfl;exact ⟨h2, k1.trans k2⟩
structure Rows (st st' : Za) (X : List PtrD) : Prop where
  row : ∀ q ∈ X, q.ok = true → q.hole = false → Yj st' q = Yj st q
  txg : st.ar ≤ st'.ar
theorem Z1.rows {st st' : Za} {X : List PtrD} (h : Z1 st st' X) : Rows st st' X := ⟨h.row, by rw [h.txg]; exact Int.le_refl _⟩
theorem Rows.mono {a b : Za} {X Y : List PtrD} (h : Rows a b X) (hs : ∀ q ∈ Y, q ∈ X) : Rows a b Y := ⟨fun q hq => h.row q (hs q hq), h.txg⟩
theorem Inv.next {st : Za} {X : List PtrD} (h : Inv st X) (ht : st.ar < 900) : Inv st.nextOf X ∧ Rows st st.nextOf X := by
 obtain ⟨h1, k1⟩ := h.drops rfl;have hO := Za.ok_spec h1.ok;have hP := Zq.ok_spec hO.space;have hE := QR.1 hO.each;refine ⟨⟨ZfL.ok ⟨hO.rows, hO.space, ⟨by have := hO.txg.1; show 1 ≤ st.ar + 1; have h5 : 1 ≤ st.ar := this; omega, by show st.ar + 1 ≤ 900; omega⟩, ⟨hO.keep.1, by have h5 : st.ax ≤ st.ar - 1 := hO.keep.2; show st.ax ≤ st.ar + 1 - 1; omega⟩, ?_, rfl, hO.dead, hO.owed⟩, h1.owes⟩, ⟨k1.row, by show st.ar ≤ st.ar + 1; omega⟩⟩;rw [QR];intro i hi;obtain ⟨a, b, c⟩ := hE i hi;exact ⟨a, b, by have h5 : (Yn (st.ac, st.aa) st.ai).2.am.getD i 0 ≤ st.ar := c; show (Yn (st.ac, st.aa) st.ai).2.am.getD i 0 ≤ st.ar + 1; omega⟩
theorem Zfd {st st' : Za} {p : PtrD} (h : p.hole = false → Yj st' p = Yj st p) : XB st' p = XB st p := by
 cases hh : p.hole with
 | true => rw [ZaM hh, ZaM hh]
 | false => rw [QD hh, QD hh, h hh]
theorem Zag {st st' : Za} {p : PtrD} (h : p.hole = false → Yj st' p = Yj st p) : Zm st' p = Zm st p := by
 cases hh : p.hole with
 | true => rw [Y1 hh, Y1 hh]
 | false => unfold Zm; rw [hh, h hh]
theorem ZbE {st st' : Za} {p : PtrD} {n : Int} (h : p.hole = false → Yj st' p = Yj st p) : kids st' p n = kids st p n := by
 unfold kids;rw [Zfd h, Zag h]
noncomputable def lvL (st : Za) : Nat → PtrD → List PtrD
 | 0, p => [p]
 | n + 1, p => ((kids st p ((n + 1 : Nat) : Int)).getD []).flatMap (lvL st n)
theorem QF {st : Za} {p : PtrD} {n : Nat} {l : List PtrD} (hk : kids st p ((n + 1 : Nat) : Int) = some l) : lvL st (n + 1) p = l.flatMap (lvL st n) := by
 show ((kids st p ((n + 1 : Nat) : Int)).getD []).flatMap (lvL st n) = _;rw [hk]; rfl
theorem Ys {f g : PtrD → List PtrD} : ∀ {l : List PtrD}, (∀ q ∈ l, f q = g q) → l.flatMap f = l.flatMap g
 | [], _ => rfl
 | q :: r, h => by rw [flatMap_cons, flatMap_cons, h q (mem_cons_self ..), Ys fun x hx => h x (mem_cons_of_mem _ hx)]
theorem Wf.stays {st st' : Za} (ht : st.ar ≤ st'.ar) : ∀ {n : Nat} {p : PtrD}, Wf st n p → (∀ q ∈ allL st n p, Yj st' q = Yj st q) → Wf st' n p ∧ allL st' n p = allL st n p ∧ lvL st' n p = lvL st n p
 | 0, p, h, hr => by
  have e : p.hole = false → Yj st' p = Yj st p := fun hh => hr p (by rw [Qn hh]; exact mem_singleton.2 rfl)
  exact ⟨⟨h.1, by have := h.2.1; omega, h.2.2.1, by rw [Zfd e]; exact h.2.2.2⟩, rfl, rfl⟩
 | n + 1, p, ⟨ho, hb, l, hk, hw⟩, hr => by
  have e : p.hole = false → Yj st' p = Yj st p := fun hh => hr p (by rw [YP hh hk]; exact mem_cons_self ..)
  have hk2 : kids st' p ((n + 1 : Nat) : Int) = some l := by rw [ZbE e]; exact hk
  have ih : ∀ q ∈ l, Wf st' n q ∧ allL st' n q = allL st n q ∧ lvL st' n q = lvL st n q := fun q hq => Wf.stays ht (hw q hq) fun x hx => by
   cases hh : p.hole with
   | false => exact hr x (by rw [YP hh hk]; exact mem_cons_of_mem _ (List.mem_flatMap.2 ⟨q, hq, hx⟩))
   | true =>
    rcases (QE hk).2.2 with ⟨_, rfl⟩ | ⟨h2, _⟩
    ·simp only [YC, mem_cons, List.not_mem_nil, or_false, or_self] at hq
     rw [hq, ZT XS] at hx; cases hx
    ·rw [hh] at h2; cases h2
  refine ⟨⟨ho, by omega, l, hk2, fun q hq => (ih q hq).1⟩, ?_, ?_⟩
  ·cases hh : p.hole with
   | true => rw [ZT hh, ZT hh]
   | false => rw [YP hh hk, YP hh hk2, Ys fun q hq => (ih q hq).2.1]
  ·rw [QF hk, QF hk2, Ys fun q hq => (ih q hq).2.2]
theorem UA {st : Za} : ∀ {n : Nat} {p : PtrD}, Wf st n p → ∀ q ∈ allL st n p, q.ok = true ∧ q.hole = false
 | 0, p, h, q, hq => by
  cases hh : p.hole with
  | true => rw [ZT hh] at hq; cases hq
  | false => rw [Qn hh, mem_singleton] at hq; rw [hq]; exact ⟨h.1, hh⟩
 | n + 1, p, ⟨ho, hb, l, hk, hw⟩, q, hq => by
  cases hh : p.hole with
  | true => rw [ZT hh] at hq; cases hq
  | false =>
   rw [YP hh hk] at hq;rcases mem_cons.1 hq with rfl | hq
   ·exact ⟨ho, hh⟩
   ·obtain ⟨k, hkl, hq⟩ := List.mem_flatMap.1 hq
    exact UA (hw k hkl) q hq
theorem Wf.rows {st st' : Za} {n : Nat} {p : PtrD} {X : List PtrD} (h : Wf st n p) (hr : Rows st st' X) (hs : ∀ q ∈ allL st n p, q ∈ X) : Wf st' n p ∧ allL st' n p = allL st n p ∧ lvL st' n p = lvL st n p :=
 h.stays hr.txg fun q hq => hr.row q (hs q hq) (UA h q hq).1 (UA h q hq).2
theorem Znv {st : Za} (h0 : 0 ≤ st.ar) {n : Nat} {p : PtrD} (h : p.hole = true) : Wf st n p := by rw [YI h]; exact Wf.zero h0 n
theorem Zgc {st : Za} : ∀ {n : Nat} {p : PtrD}, Wf st n p → (lvL st n p).length = 4 ^ n
 | 0, p, _ => rfl
 | n + 1, p, ⟨ho, hb, l, hk, hw⟩ => by
  rw [QF hk];have : ∀ m : List PtrD, (∀ q ∈ m, Wf st n q) → (m.flatMap (lvL st n)).length = m.length * 4 ^ n := by
   intro m
   induction m with
   | nil => intro _; simp
   | cons q r ih => intro hq; rw [flatMap_cons, length_append, Zgc (hq q (mem_cons_self ..)), ih fun x hx => hq x (mem_cons_of_mem _ hx), length_cons, Nat.add_mul]; omega
  rw [this l hw, VI hk, Nat.pow_succ]; omega
theorem ZbF {st : Za} {p : PtrD} (h : p.hole = true) : ∀ n, lvL st n p = replicate (4 ^ n) PtrD.zero
 | 0 => by rw [YI h]; rfl
 | n + 1 => by
  rw [QF (Jo h)];simp only [YC, flatMap_cons, flatMap_nil, append_nil, ZbF XS n, List.replicate_append_replicate]
  congr 1; rw [Nat.pow_succ]; omega
theorem ZbG {st : Za} : ∀ {n : Nat} {p : PtrD}, Wf st n p → ∀ q ∈ lvL st n p, Wf st 0 q
 | 0, p, h, q, hq => by rw [show lvL st 0 p = [p] from rfl, mem_singleton] at hq; rw [hq]; exact h
 | n + 1, p, ⟨ho, hb, l, hk, hw⟩, q, hq => by
  rw [QF hk] at hq;obtain ⟨k, hkl, hq⟩ := List.mem_flatMap.1 hq;exact ZbG (hw k hkl) q hq
noncomputable def Vk (st : Za) : List PtrD → Option (List (Option Zc))
 | [] => some []
 | p :: r => bif p.hole then (Vk st r).map (none :: ·) else match JL (Zm st p) with
  | none => none
  | some n => bif VF st n.au then (Vk st r).map (some n :: ·) else none
noncomputable def ZeD (st : Za) (t : Zd) : Option (List (Option Zc)) := (leavesF st t).bind (Vk st)
theorem Zki {st : Za} {t : Zd} (h : leavesF st t = none) : ZeD st t = none := by unfold ZeD; rw [h]; rfl
theorem Zfe {st : Za} {t : Zd} {l : List PtrD} (h : leavesF st t = some l) : ZeD st t = Vk st l := by unfold ZeD; rw [h]; rfl
theorem Zcd {st : Za} {p : PtrD} {r : List PtrD} (h : p.hole = true) : Vk st (p :: r) = (Vk st r).map (none :: ·) := by
 show (bif p.hole then _ else _) = _;rw [h]; rfl
theorem Zhk {st : Za} {p : PtrD} {r : List PtrD} (h : p.hole = false) (hn : JL (Zm st p) = none) : Vk st (p :: r) = none := by
 show (bif p.hole then _ else _) = _;rw [h, hn]; rfl
theorem Zff {st : Za} {p : PtrD} {r : List PtrD} {n : Zc} (h : p.hole = false) (hn : JL (Zm st p) = some n) (ht : VF st n.au = false) : Vk st (p :: r) = none := by
 show (bif p.hole then _ else _) = _;rw [h, hn];simp only [cond_false, ht]
theorem ZdT {st : Za} {p : PtrD} {r : List PtrD} {n : Zc} (h : p.hole = false) (hn : JL (Zm st p) = some n) (ht : VF st n.au = true) : Vk st (p :: r) = (Vk st r).map (some n :: ·) := by
 show (bif p.hole then _ else _) = _;rw [h, hn];simp only [cond_false, ht, cond_true]
theorem ZdU {xs : List PtrD} {i : Nat} (h : i < xs.length) : xs.drop i = xs.getD i PtrD.zero :: xs.drop (i + 1) := by
 rw [List.drop_eq_getElem_cons h, getD_eq_getElem?_getD, List.getElem?_eq_getElem h]; rfl
theorem Zhl {st : Za} : ∀ {l : List PtrD} {ns : List (Option Zc)}, Vk st l = some ns → ns.length = l.length
 | [], ns, h => by obtain rfl := Option.some.inj h; rfl
 | p :: r, ns, h => by
  have key : ∀ o : Option Zc, (Vk st r).map (o :: ·) = some ns → ns.length = (p :: r).length := fun o h => by
   cases hr : Vk st r with
   | none => rw [hr] at h; cases h
   | some m =>
    rw [hr] at h;obtain rfl := Option.some.inj h;rw [length_cons, length_cons, Zhl hr]
  cases hh : p.hole with
  | true => exact key _ ((Zcd hh).symm.trans h)
  | false =>
   cases hn : JL (Zm st p) with
   | none => rw [Zhk hh hn] at h; cases h
   | some n =>
    cases ht : VF st n.au with
    | false => rw [Zff hh hn ht] at h; cases h
    | true => exact key _ ((ZdT hh hn ht).symm.trans h)
theorem UB {st : Za} {t : Zd} {l : List PtrD} (h : leavesF st t = some l) : l.length ≤ 16 := by
 obtain ⟨x, ht, hd, _, rfl, hx, hn⟩ := ZaO h;unfold topB at ht;rw [Bool.and_eq_true] at ht;have := Zu ht.1
 omega
def Zhm (st : Za) (p : PtrD) (o : Option Zc) : Prop := (p.hole = true ∧ o = none) ∨ (p.hole = false ∧ ∃ n, o = some n ∧ JL (Zm st p) = some n ∧ VF st n.au = true)
theorem Zdd {st : Za} : ∀ {l : List PtrD} {ns : List (Option Zc)}, Vk st l = some ns → ∀ k, k < l.length → Zhm st (l.getD k PtrD.zero) (ns.getD k none)
 | [], ns, h, k, hk => absurd hk (Nat.not_lt_zero _)
 | p :: r, ns, h, k, hk => by
  have key : ∀ o : Option Zc, Zhm st p o → (Vk st r).map (o :: ·) = some ns → Zhm st ((p :: r).getD k PtrD.zero) (ns.getD k none) := fun o ho h => by
   cases hr : Vk st r with
   | none => rw [hr] at h; cases h
   | some m =>
    rw [hr] at h;obtain rfl := Option.some.inj h
    cases k with
    | zero => exact ho
    | succ k => exact Zdd hr k (by simpa using hk)
  cases hh : p.hole with
  | true => exact key _ (.inl ⟨hh, rfl⟩) ((Zcd hh).symm.trans h)
  | false =>
   cases hn : JL (Zm st p) with
   | none => rw [Zhk hh hn] at h; cases h
   | some n =>
    cases ht : VF st n.au with
    | false => rw [Zff hh hn ht] at h; cases h
    | true => exact key _ (.inr ⟨hh, n, rfl, hn, ht⟩) ((ZdT hh hn ht).symm.trans h)
theorem Zgd {st : Za} {t : Zd} {ns : List (Option Zc)} (h : ZeD st t = some ns) : ∃ l, leavesF st t = some l ∧ Vk st l = some ns ∧ ns.length = l.length := by
 cases hl : leavesF st t with
 | none => rw [Zki hl] at h; cases h
 | some l => rw [Zfe hl] at h; exact ⟨l, rfl, h, Zhl h⟩
theorem Za.reads_of {W w : World} {s : List Asr} (h : St W s w) (x : Za) (a0 : Option Addr) (c0 : Nat) (a1 : Option Addr) (c1 : Nat) (a2 : Option Addr) (c2 : Nat) (a4 : Option Addr) (c4 : Nat) (a6 : Option Addr) (c6 : Nat) (i0 : Nat) (i1 : Nat) (i2 : Nat) (i4 : Nat) (i6 : Nat) (h0 : s[i0]? = some (Zg Zt 1 9 (.slice a0 x.ac.length c0) x.ac)) (h1 : s[i1]? = some (Zg ZH 1 3 (.slice a1 x.aa.ag.length c1) x.aa.ag)) (h2 : s[i2]? = some (Zg ZH 1 3 (.slice a2 x.aa.am.length c2) x.aa.am)) (h4 : s[i4]? = some (Zg PtrD.cells 5 40 (.slice a4 x.ai.length c4) x.ai)) (h6 : s[i6]? = some (Zg PtrD.cells 5 40 (.slice a6 x.al.length c6) x.al)) : Za.Reads w (.agg #[.slice a0 x.ac.length c0, .slice a1 x.aa.ag.length c1, .slice a2 x.aa.am.length c2, .int .i64 x.ar, .slice a4 x.ai.length c4, .int .i64 x.ax, .slice a6 x.al.length c6, .bool x.az]) x := by
 obtain ⟨_, _, e0, r0⟩ := h.rdS Zi i0 h0;simp only [Value.slice.injEq, true_and] at e0;obtain ⟨rfl, rfl⟩ := e0;obtain ⟨_, _, e1, r1⟩ := h.rdS Zp i1 h1;simp only [Value.slice.injEq, true_and] at e1;obtain ⟨rfl, rfl⟩ := e1;obtain ⟨_, _, e2, r2⟩ := h.rdS Zp i2 h2;simp only [Value.slice.injEq, true_and] at e2;obtain ⟨rfl, rfl⟩ := e2;obtain ⟨_, _, e4, r4⟩ := h.rdS PtrD.cells_len i4 h4;simp only [Value.slice.injEq, true_and] at e4;obtain ⟨rfl, rfl⟩ := e4;obtain ⟨_, _, e6, r6⟩ := h.rdS PtrD.cells_len i6 h6;simp only [Value.slice.injEq, true_and] at e6;obtain ⟨rfl, rfl⟩ := e6;exact ⟨a0, c0, a1, c1, a2, c2, a4, c4, a6, c6, rfl, r0, r1, r2, r4, r6⟩
theorem Zit (v : Value) (st : Za) (text : ByteArray) (w0 : World) (hr : Za.Reads w0 v st) (h0 : st.ac.length = 64) (h1 : st.aa.ag.length = 64) (h2 : st.aa.am.length = 64) : Calls prog 227 #[v, .string text] w0 fun e w' => e = .returned (.int .i64 (Zao st text)) ∧ Below w0.heap.size w0 w' := by
 obtain ⟨a0, c0, a1, c1, a2, c2, a4, c4, a6, c6, rfl, r0, r1, r2, _, _⟩ := hr;obtain ⟨g0, o0, r0⟩ := r0.opn;obtain ⟨g1, o1, r1⟩ := r1.opn;obtain ⟨g2, o2, r2⟩ := r2.opn;have R0 := Bx.mk r0;have R1 := Bx.mk r1;have R2 := Bx.mk r2;clear r0 r1 r2;have E := Bx.mk (St.start w0);refine XI func227 rfl ntmps227 [(0, sV a0 c0 a1 c1 a2 c2 a4 c4 a6 c6 st), (1, .string text)] ⟨rfl, rfl, trivial⟩ rfl ?_;refine xsr ?_;refine ybx E ?_;clear E;intro w1 b1 E;refine xr 1 rfl<|xne<|xsq<|xsr<|xr 1 rfl<|xne<|xbl ?_;intro a J;refine Zs (ι := Nat) (fun k a w => ((8 ≤ k ∧ k ≤ 64) ∧ ZP (J5 st text) 56 8 = ZP (J5 st text) (64 - k) k) ∧ Fr 40 a [(1, .string text), (2, .pointer (some ⟨b1, 0, none⟩)), (5, .int .i64 (k : Int))] ∧ St w0 ([boxA b1 8 39 (sV a0 c0 a1 c1 a2 c2 a4 c4 a6 c6 st)]) w) (fun k => 64 - k) 8 ⟨⟨by omega, rfl⟩, J.less _ ⟨rfl, rfl, rfl, trivial⟩, E.o⟩ ?_;clear J E; clear a;rintro k a w2 ⟨⟨⟨hk, hk2⟩, hf⟩, J, E⟩;replace E := Bx.mk E;revert a;refine xsq<|xsr<|xr 2 rfl<|xne<|xcs 7 rfl (fun cc1=>?_) fun cc1=>?_
 have cc1 := of_decide_eq_true cc1;refine xct rfl<|xsk<|xet<|xsq<|xbl<|xsq ?_;intro a J;refine Yi (by kernel_rfl) (by kernel_rfl) E.o ?_;revert a;refine Qf 0 rfl<|Ql 0 rfl rfl<|xqr 1 rfl<|xq rfl (fun E=>vxr 9 k 1 rfl (R0.out.ao k (by omega)))<|xq rfl (fun E a J=>ylo (v := .string (st.ac.getD k ByteArray.empty)) rfl (J.ev rfl) (R0.out.elem1 E (Zh (xs := st.ac) (j := k) (d := ByteArray.empty) (by omega)) rfl))<|xqr 1 rfl<|xq rfl (fun E a J=>Yq rfl (J.ev rfl) (J.ev rfl))<|xqr 1 rfl<|xcs 17 rfl (fun cc2=>?_) fun cc2=>?_
 refine Qf 1 rfl<|Qf 1 rfl<|Ql 0 rfl rfl<|xqr 1 rfl<|xq rfl (fun E=>vxr 3 k 1 rfl (R2.out.ao k (by omega)))<|xq rfl (fun E a J=>ylo (v := .int .i64 (st.aa.am.getD k 0)) rfl (J.ev rfl) (R2.out.elem1 E (Zh (xs := st.aa.am) (j := k) (d := 0) (by omega)) rfl))<|Qf 3 rfl<|Ql 0 rfl rfl<|xqr 3 rfl<|xcs 28 rfl (fun cc3=>?_) fun cc3=>?_;refine Qf 1 rfl<|Qf 0 rfl<|Ql 0 rfl rfl<|xqr 1 rfl<|xq rfl (fun E=>vxr 3 k 1 rfl (R1.out.ao k (by omega)))<|xq rfl (fun E a J=>ylo (v := .int .i64 (st.aa.ag.getD k 0)) rfl (J.ev rfl) (R1.out.elem1 E (Zh (xs := st.aa.ag) (j := k) (d := 0) (by omega)) rfl))<|Qf 3 rfl<|Ql 0 rfl rfl<|xqr 2 rfl ?_;intro a J;refine wpQuiet_nil ?_; intro w3 E; replace E := Bx.mk E;revert a;refine xet<|xcs 38 rfl (fun cc4=>?_) fun cc4=>?_
 refine xct rfl<|xsr<|xr 2 rfl<|xne<|xre<|xbr<|xtr<|xtr<|xbr<|xtr<|xb1 results227 rfl ?_;have hp : J5 st text k = true := by unfold J5; rw [cc2, cc3, cc4]; rfl
 have he : Zao st text = k := by unfold Zao; rw [ZjU (by omega) hp hf]; exact Zjh (by omega)
 exact ⟨by rw [he], E.o.bel⟩;refine xcf rfl<|xsk<|xeb<|xet<|xrl<|xr 1 rfl<|xy rfl (vad rfl)<|xr 1 rfl<|xne ?_;have hp : J5 st text k = false := by unfold J5; rw [cc2, cc3, cc4]; rfl
 intro a J;exact ⟨k + 1, ⟨⟨by omega, Zb5 (by omega) hp hf rfl⟩, J.less _ ⟨rfl, rfl, rfl, trivial⟩, E.o⟩, (by omega)⟩;refine xqr 10 rfl ?_;intro a J;refine wpQuiet_nil ?_; intro w4 E; replace E := Bx.mk E;revert a;refine xet<|xcf rfl<|xsk<|xeb<|xet<|xrl<|xr 1 rfl<|xy rfl (vad rfl)<|xr 1 rfl<|xne ?_;have hp : J5 st text k = false := by unfold J5; rw [cc2, cc3]; rfl
 intro a J;exact ⟨k + 1, ⟨⟨by omega, Zb5 (by omega) hp hf rfl⟩, J.less _ ⟨rfl, rfl, rfl, trivial⟩, E.o⟩, (by omega)⟩;refine xqr 21 rfl ?_;intro a J;refine wpQuiet_nil ?_; intro w5 E; replace E := Bx.mk E;revert a;refine xet<|xcf rfl<|xsk<|xeb<|xet<|xrl<|xr 1 rfl<|xy rfl (vad rfl)<|xr 1 rfl<|xne ?_;have hp : J5 st text k = false := by unfold J5; rw [cc2]; rfl
 intro a J;exact ⟨k + 1, ⟨⟨by omega, Zb5 (by omega) hp hf rfl⟩, J.less _ ⟨rfl, rfl, rfl, trivial⟩, E.o⟩, (by omega)⟩;have cc1 := of_decide_eq_false cc1;refine xcf rfl<|xex<|xtx<|xtx<|xbh<|xet<|xsr<|xr 1 rfl<|xne<|xre<|xb1 results227 rfl ?_;have he : Zao st text = -1 := by unfold Zao; rw [Zlt (by omega) hf]; rfl
 exact ⟨by rw [he], E.o.bel⟩
theorem Zmb (ao : Option Addr) (cap : Nat) (xs : List Int) (n : Int) (w0 : World) (hr : Rd ZH 1 w0 ao xs.length xs) (hl : xs.length ≤ 9223372036854775806) : Calls prog 282 #[.slice ao xs.length cap, .int .i64 n] w0 fun e w' => e = .returned (.bool (inL xs n)) ∧ Below w0.heap.size w0 w' := by
 obtain ⟨g0, o0, r0⟩ := hr.opn;have R0 := Bx.mk r0;clear r0;have E := Bx.mk (St.start w0);refine ent func282 ntmps282 ?_;refine xsr<|xr 1 rfl<|xne<|xsq<|xsr<|xr 1 rfl<|xne<|xbl ?_;intro a J;refine Zs (ι := Nat) (fun k a w => (k ≤ xs.length ∧ (xs.take k).any (· == n) = false) ∧ Fr 18 a [(0, .slice ao xs.length cap), (1, .int .i64 n), (5, .int .i64 (k : Int))] ∧ St w0 ([]) w) (fun k => xs.length - k) 0 ⟨⟨Nat.zero_le _, rfl⟩, J.ls _, E.o⟩ ?_;clear J E; clear a;rintro k a w1 ⟨⟨hk, hf⟩, J, E⟩;replace E := Bx.mk E;revert a;refine xsq<|xsr<|xr 2 rfl<|xy rfl (vn 3 1 rfl)<|xr 1 rfl<|xne<|xcs 9 rfl (fun cc1=>?_) fun cc1=>?_
 have cc1 := of_decide_eq_true cc1;refine xct rfl<|xsk<|xet<|xsq<|xbl<|xsr<|xr 2 rfl<|xy rfl (vxr 3 k 1 rfl (R0.out.ao k (by omega)))<|xy rfl (fun a J=>ylo (v := .int .i64 (xs.getD k 0)) rfl (J.ev rfl) (R0.out.elem1 E.o (Zh (xs := xs) (j := k) (d := 0) (by omega)) rfl))<|xr 2 rfl<|xne<|xcs 17 rfl (fun cc2=>?_) fun cc2=>?_;refine xct rfl<|xsr<|xr 1 rfl<|xne<|xre<|xbr<|xtr<|xtr<|xbr<|xtr<|xb1 results282 rfl ?_;exact ⟨by rw [Zlu (by omega) cc2], E.o.bel⟩;refine xcf rfl<|xsk<|xeb<|xet<|xrl<|xr 1 rfl<|xy rfl (vad rfl)<|xr 1 rfl<|xne ?_;intro a J;exact ⟨k + 1, ⟨⟨by omega, Zlv (by omega) cc2 hf⟩, J.less _ ⟨rfl, rfl, rfl, trivial⟩, E.o⟩, (by omega)⟩;have cc1 := of_decide_eq_false cc1;refine xcf rfl<|xex<|xtx<|xtx<|xbh<|xet<|xsr<|xr 1 rfl<|xne<|xre<|xb1 results282 rfl ?_;exact ⟨by rw [Znf (by omega) hf], E.o.bel⟩
theorem ZaW (ao a2 a3 : Option Addr) (cap n2 c2 c3 : Nat) (s : Zq) (w0 : World) (hr : Rd ZH 1 w0 ao s.ag.length s.ag) (hl : s.ag.length = 64) : Calls prog 228 #[.agg #[.slice ao s.ag.length cap, .slice a2 n2 c2], .int .i64 8, .slice a3 0 c3] w0 fun e w' => e = .returned (.int .i64 (J6 s)) ∧ Below w0.heap.size w0 w' := by
 obtain ⟨g0, o0, r0⟩ := hr.opn;have R0 := Bx.mk r0;clear r0;have E := Bx.mk (St.start w0);refine ent func228 ntmps228 ?_;refine xsr ?_;refine ybx E ?_;clear E;intro w1 b1 E;refine xr 1 rfl<|xne<|xsq<|xsr<|xr 1 rfl ?_;refine ycB ((XP 8 _).mono fun _ _ h => ⟨h.1, h.2 ▸ Below.refl _ _⟩) func168 E ?_;clear E;intro w2 E;refine xr 1 rfl<|xne<|xcs 12 rfl (fun cc1=>?_) fun cc1=>?_;exact absurd cc1 (by decide);refine xcf rfl<|xsk<|xet<|xsr<|xr 1 rfl<|xne<|xsq<|xsr<|xr 1 rfl<|xne<|xbl ?_;intro a J;refine Zs (ι := Nat) (fun i a w => (i ≤ 56 ∧ ZP (Vt s) 56 8 = ZP (Vt s) (56 - i) (8 + i)) ∧ Fr 38 a [(1, .int .i64 8), (2, .slice a3 0 c3), (3, .pointer (some ⟨b1, 0, none⟩)), (7, .int .i64 56), (8, .int .i64 (i : Int))] ∧ St w0 ([boxA b1 2 36 (.agg #[.slice ao s.ag.length cap, .slice a2 n2 c2])]) w) (fun i => 56 - i) 0 ⟨⟨Nat.zero_le _, rfl⟩, J.ls _, E.o⟩ ?_;clear J E; clear a;rintro i a w3 ⟨⟨hk, hf⟩, J, E⟩;replace E := Bx.mk E;revert a;refine xsq<|xsr<|xr 3 rfl<|xne<|xcs 15 rfl (fun cc2=>?_) fun cc2=>?_
 have cc2 := of_decide_eq_true cc2;refine xct rfl<|xsk<|xet<|xsq<|xbl<|xsr<|xr 1 rfl<|xy rfl (fun a J=>ZJ rfl (J.ev rfl) (J.ev rfl) (Yb (by omega)))<|xr 1 rfl<|xy rfl (vad rfl)<|xr 1 rfl<|xy rfl (fun a J=>Qx rfl (J.ev rfl) (J.ev rfl) (by omega) (Qy (by omega) (by omega)))<|xy rfl (fun a J=>YO (r := ((8 + i : Nat) : Int)) rfl (J.ev rfl) (J.ev rfl) ((Yb (by omega)).trans (by omega)))<|xr 1 rfl<|xne<|xsr<|Xf 0 rfl<|Xl 0 E rfl rfl<|xr 1 rfl<|xy rfl (vxr 3 (8 + i) 1 rfl (R0.out.ao (8 + i) (by omega)))<|xy rfl (fun a J=>ylo (v := .int .i64 (s.ag.getD (8 + i) 0)) rfl (J.ev rfl) (R0.out.elem1 E.o (Zh (xs := s.ag) (j := 8 + i) (d := 0) (by omega)) rfl))<|xr 2 rfl<|xcs 31 rfl (fun cc3=>?_) fun cc3=>?_;refine xr 2 rfl ?_;refine Zb3 (Zmb _ _ ([] : List Int) ((8 + i : Nat) : Int) _ ⟨rfl, fun i hi => absurd hi (Nat.not_lt_zero _)⟩ (by simp)) func282 E ?_;clear E;intro w4 E;refine xr 2 rfl<|xne<|xcs 36 rfl (fun cc4=>?_) fun cc4=>?_;refine xct rfl<|xsr<|xr 2 rfl<|xne<|xre<|xbr<|xtr<|xtr<|xbr<|xtr<|xb1 results228 rfl ?_;have hp : Vt s (8 + i) = true := cc3;exact ⟨by rw [show J6 s = ((8 + i : Nat) : Int) by unfold J6; rw [hf, show 56 - i = (55 - i) + 1 by omega, ZaD hp]; exact Zjh (by omega)], E.o.bel⟩;refine xcf rfl<|xsk<|xeb<|xet<|xrl<|xr 1 rfl<|xy rfl (vad rfl)<|xr 1 rfl<|xne ?_;have hp : Vt s (8 + i) = false := by unfold Vt; first | exact cc3 | (exfalso; simp [inL] at cc4)
 intro a J;exact ⟨i + 1, ⟨⟨by omega, by rw [hf, show 56 - i = (56 - (i + 1)) + 1 by omega, V5 hp]; rfl⟩, J.less _ ⟨rfl, rfl, rfl, rfl, rfl, trivial⟩, E.o⟩, (by omega)⟩;refine xr 5 rfl<|xne<|xcf rfl<|xsk<|xeb<|xet<|xrl<|xr 1 rfl<|xy rfl (vad rfl)<|xr 1 rfl<|xne ?_;have hp : Vt s (8 + i) = false := by unfold Vt; first | exact cc3 | (exfalso; simp [inL] at cc3)
 intro a J;exact ⟨i + 1, ⟨⟨by omega, by rw [hf, show 56 - i = (56 - (i + 1)) + 1 by omega, V5 hp]; rfl⟩, J.less _ ⟨rfl, rfl, rfl, rfl, rfl, trivial⟩, E.o⟩, (by omega)⟩;have cc2 := of_decide_eq_false cc2;refine xcf rfl<|xex<|xtx<|xtx<|xbh<|xet<|xsr<|xr 1 rfl<|xne<|xre<|xb1 results228 rfl ?_;exact ⟨by rw [show J6 s = -1 by unfold J6; rw [hf, show 56 - i = 0 by omega, show i = 56 by omega]; rfl], E.o.bel⟩
theorem U5 (k : Nat) : ZfR k < 0 ∨ ∃ i : Nat, ZfR k = i ∧ i < 64 := by
 unfold ZfR
 split
 ·exact .inr ⟨k, rfl, by assumption⟩
 ·exact .inl (by omega)
def Zoy (w0 : World) (st : Za) (text : ByteArray) (level : Int) (a0 : Option Addr) (c0 : Nat) (a1 : Option Addr) (c1 : Nat) (a2 : Option Addr) (c2 : Nat) (a4 : Option Addr) (c4 : Nat) (a6 : Option Addr) (c6 : Nat) (F : List Asr) (e : Ending) (w' : World) : Prop :=
 (Qd st text level < 0 ∧ e = .returned (.tuple #[.agg #[.slice a0 st.ac.length c0, .slice a1 st.aa.ag.length c1, .slice a2 st.aa.am.length c2, .int .i64 st.ar, .slice a4 st.ai.length c4, .int .i64 st.ax, .slice a6 st.al.length c6, .bool st.az], .agg #[.int .i64 0, .int .i64 0, .int .i64 0, .int .i64 0, .int .i64 0], .bool false]) ∧ St w0 (Zg Zt 1 9 (.slice a0 st.ac.length c0) st.ac :: Zg ZH 1 3 (.slice a1 st.aa.ag.length c1) st.aa.ag :: Zg ZH 1 3 (.slice a2 st.aa.am.length c2) st.aa.am :: Zg PtrD.cells 5 40 (.slice a4 st.ai.length c4) st.ai :: Zg PtrD.cells 5 40 (.slice a6 st.al.length c6) st.al :: F) w') ∨
 (∃ i : Nat, i < 64 ∧ Qd st text level = i ∧ ((Xu (i : Int) st.ar level text = false ∧ e = .returned (.tuple #[.agg #[.slice a0 st.ac.length c0, .slice a1 st.aa.ag.length c1, .slice a2 st.aa.am.length c2, .int .i64 st.ar, .slice a4 st.ai.length c4, .int .i64 st.ax, .slice a6 st.al.length c6, .bool st.az], .agg #[.int .i64 0, .int .i64 0, .int .i64 0, .int .i64 0, .int .i64 0], .bool false]) ∧ St w0 (Zg Zt 1 9 (.slice a0 st.ac.length c0) st.ac :: Zg ZH 1 3 (.slice a1 st.aa.ag.length c1) st.aa.ag :: Zg ZH 1 3 (.slice a2 st.aa.am.length c2) st.aa.am :: Zg PtrD.cells 5 40 (.slice a4 st.ai.length c4) st.ai :: Zg PtrD.cells 5 40 (.slice a6 st.al.length c6) st.al :: F) w') ∨ (Xu (i : Int) st.ar level text = true ∧ e = .returned (.tuple #[.agg #[.slice a0 st.ac.length c0, .slice a1 st.aa.ag.length c1, .slice a2 st.aa.am.length c2, .int .i64 st.ar, .slice a4 st.ai.length c4, .int .i64 st.ax, .slice a6 st.al.length c6, .bool st.az], .agg #[.int .i64 (YX (i : Int) st.ar level text).aB, .int .i64 (YX (i : Int) st.ar level text).aj, .int .i64 (YX (i : Int) st.ar level text).av, .int .i64 (YX (i : Int) st.ar level text).aC, .int .i64 (YX (i : Int) st.ar level text).aq], .bool true]) ∧ St w0 (Zg Zt 1 9 (.slice a0 st.ac.length c0) (st.ac.set i text) :: Zg ZH 1 3 (.slice a1 st.aa.ag.length c1) (st.aa.ag.set i (st.aa.ag.getD i 0 + 1)) :: Zg ZH 1 3 (.slice a2 st.aa.am.length c2) (st.aa.am.set i st.ar) :: Zg PtrD.cells 5 40 (.slice a4 st.ai.length c4) st.ai :: Zg PtrD.cells 5 40 (.slice a6 st.al.length c6) st.al :: F) w')))
theorem Zhn (w0 w : World) (a0 : Option Addr) (c0 : Nat) (a1 : Option Addr) (c1 : Nat) (a2 : Option Addr) (c2 : Nat) (a4 : Option Addr) (c4 : Nat) (a6 : Option Addr) (c6 : Nat) (st : Za) (text : ByteArray) (level : Int) (F : List Asr) (hS : St w0 (Zg Zt 1 9 (.slice a0 st.ac.length c0) st.ac :: Zg ZH 1 3 (.slice a1 st.aa.ag.length c1) st.aa.ag :: Zg ZH 1 3 (.slice a2 st.aa.am.length c2) st.aa.am :: Zg PtrD.cells 5 40 (.slice a4 st.ai.length c4) st.ai :: Zg PtrD.cells 5 40 (.slice a6 st.al.length c6) st.al :: F) w) (h0 : st.ac.length = 64) (h1 : st.aa.ag.length = 64) (h2 : st.aa.am.length = 64) (hs : text.size ≤ 9223372036854775806) (hr : ∀ i, 0 ≤ st.aa.ag.getD i 0 ∧ st.aa.ag.getD i 0 ≤ 900) : Calls prog 172 #[sV a0 c0 a1 c1 a2 c2 a4 c4 a6 c6 st, .string text, .int .i64 level] w (Zoy w0 st text level a0 c0 a1 c1 a2 c2 a4 c4 a6 c6 F) := by
 obtain ⟨g0, rfl, _, _, _, _⟩ := hS.rowOpen 0 rfl (by omega);obtain ⟨g1, rfl, _, _, _, _⟩ := hS.rowOpen 1 rfl (by omega);obtain ⟨g2, rfl, _, _, _, _⟩ := hS.rowOpen 2 rfl (by omega);have E := Bx.mk hS;clear hS;refine XI func172 rfl ntmps172 [(0, .agg #[.slice (some ⟨g0, 0, none⟩) st.ac.length c0, .slice (some ⟨g1, 0, none⟩) st.aa.ag.length c1, .slice (some ⟨g2, 0, none⟩) st.aa.am.length c2, .int .i64 st.ar, .slice a4 st.ai.length c4, .int .i64 st.ax, .slice a6 st.al.length c6, .bool st.az]), (1, .string text), (2, .int .i64 level)] ⟨rfl, rfl, rfl, trivial⟩ rfl ?_;refine xsr ?_;refine ybx E ?_;clear E;intro w1 b1 E;refine yal z8 E ?_;clear E;intro w2 b2 E;refine yal z5 E ?_;clear E;intro w3 b3 E;refine xr 1 rfl<|xne<|xsr<|xr 1 rfl<|xne<|xsq<|xsr<|Xf 7 rfl<|Xl 2 E rfl rfl<|xr 1 rfl<|xcs 14 rfl (fun cc1=>?_) fun cc1=>?_;refine xr 3 rfl<|xne<|xcs 17 rfl (fun cc2=>?_) fun cc2=>?_;have hls : ZbD st text level = Zao st text := by unfold ZbD; rw [cc1, cc2]; rfl
 refine xct rfl<|xrl<|Xw 2 8 E rfl rfl<|xr 1 rfl ?_;refine ycB (Zit _ st text _ (Za.reads_of E.o st _ _ _ _ _ _ _ _ _ _ 3 4 5 6 7 rfl rfl rfl rfl rfl) (by omega) (by omega) (by omega)) func227 E ?_;clear E;intro w4 E;refine xr 1 rfl<|xne<|xsq<|xsr<|xr 2 rfl<|xne<|xcs 22 rfl (fun cc3=>?_) fun cc3=>?_;have hws : Qd st text level = J6 st.aa := by unfold Qd; rw [if_pos (by rw [hls]; exact of_decide_eq_true cc3)]
 refine xct rfl ?_;have hws : Qd st text level = J6 st.aa := by unfold Qd; rw [if_pos (by rw [hls]; first | omega | (exact of_decide_eq_true (by assumption)))]
 refine xrl<|Xf 1 rfl<|Xw 2 2 E rfl rfl ?_;refine yem 3 1 E ?_;clear E;intro w5 b4 E;refine ycB (ZaW _ _ _ _ _ _ _ st.aa _ (St.rdOf E.o Zp 4 rfl) (by omega)) func228 E ?_;clear E;intro w6 E;refine xr 1 rfl<|xne<|xsq<|xsr<|xr 2 rfl<|xne<|xcs 28 rfl (fun cc4=>?_) fun cc4=>?_;have hneg := of_decide_eq_true cc4;refine xct rfl<|xsr<|Xw 2 8 E rfl rfl<|xy rfl (vb z5 rfl) ?_;refine yst E 1 ?_;clear E;intro w7 E;replace E:=E.nm;refine yst E 0 ?_;clear E;intro w8 E;replace E:=E.nm;refine xr 1 rfl<|xne<|xre<|xtr ?_;intro a J;refine Zv J results172 (J.resBox rfl (E.o.box 1 rfl) (by kernel_rfl)) (J.resBox rfl (E.o.box 0 rfl) (by kernel_rfl)) (J.res rfl) ?_;exact .inl ⟨by rw [hws]; exact hneg, rfl, E.o.tail.tail.tail⟩;obtain ⟨i, hi, hi64⟩ : ∃ i : Nat, J6 st.aa = i ∧ i < 64 := (U5 _).resolve_left (of_decide_eq_false cc4);intro a J;replace J : Fr 70 a [(1, .string text), (2, .int .i64 level), (3, .pointer (some ⟨b1, 0, none⟩)), (6, .pointer (some ⟨b2, 0, none⟩)), (7, .pointer (some ⟨b3, 0, none⟩)), (8, .bool false), (9, .int .i64 (i : Int)), (22, .bool true), (28, .bool false)] := by
   rw [← hi]; exact J.ls _
 rw [hi] at hws;revert a;refine xcf rfl<|xsk<|xet<|xsr<|xr 1 rfl<|Xf 3 rfl<|Xl 2 E rfl rfl<|xr 2 rfl ?_;refine ycB (Qb (i : Int) st.ar level text _ (by omega)) func187 E ?_;clear E;intro w9 E;refine xr 3 rfl ?_;refine yal z5 E ?_;clear E;intro w10 b5 E;refine yst E 0 ?_;clear E;intro w11 E;replace E:=E.nm;refine xr 1 rfl<|xne<|xsq<|xsr<|xr 2 rfl<|xne<|xcs 41 rfl (fun cc5=>?_) fun cc5=>?_;have hpk : Xu (i : Int) st.ar level text = false := by simpa using cc5
 refine xct rfl<|xsr<|Xw 3 8 E rfl rfl<|xy rfl (vb z5 rfl) ?_;refine yst E 2 ?_;clear E;intro w12 E;replace E:=E.nm;refine yst E 1 ?_;clear E;intro w13 E;replace E:=E.nm;refine xr 1 rfl<|xne<|xre<|xtr ?_;intro a J;refine Zv J results172 (J.resBox rfl (E.o.box 2 rfl) (by kernel_rfl)) (J.resBox rfl (E.o.box 1 rfl) (by kernel_rfl)) (J.res rfl) ?_;exact .inr ⟨i, hi64, hws, .inl ⟨hpk, rfl, E.o.tail.tail.tail.tail⟩⟩;have hpk : Xu (i : Int) st.ar level text = true := by simpa using cc5
 refine xcf rfl<|xsk<|xet<|xsr<|Xf 0 rfl<|Xl 3 E rfl rfl<|xr 2 rfl<|xy rfl (vx 9 i 1 rfl) ?_;intro a J;refine Yc Zi rfl rfl rfl (J.ev rfl) (J.ev rfl) (by kernel_rfl) E.o 4 rfl (by omega) (z := text) rfl rfl ?_; clear E; intro w14 E; replace E := Bx.mk E;refine Zbg<|wp_seq ?_;have hrb := hr i;refine UY 12 (by kernel_rfl) (by kernel_rfl) E.o ?_;simp only [List.take_succ_cons, List.take_zero, List.drop_succ_cons, List.drop_zero];intro w15 E;replace E := Bx.mk E;refine ZQ rfl J rfl rfl (yfa 1 rfl (J.ev rfl)) ?_; clear J a; intro a J;refine ZQ rfl J rfl rfl (yfa 0 rfl (J.ev rfl)) ?_; clear J a; intro a J;refine ZQ rfl J rfl rfl (ylo (v := .slice (some ⟨g1, 0, none⟩) st.aa.ag.length c1) rfl (J.ev rfl) (((E.o.box 3 rfl).cell 1).trans rfl)) ?_; clear J a; intro a J;refine ZQ rfl J rfl rfl (YV rfl (J.ev rfl)) ?_; clear J a; intro a J;refine ZQ rfl J rfl rfl (yfa 1 rfl (J.ev rfl)) ?_; clear J a; intro a J;refine ZQ rfl J rfl rfl (yfa 0 rfl (J.ev rfl)) ?_; clear J a; intro a J;refine ZQ rfl J rfl rfl (ylo (v := .slice (some ⟨g1, 0, none⟩) st.aa.ag.length c1) rfl (J.ev rfl) (((E.o.box 3 rfl).cell 1).trans rfl)) ?_; clear J a; intro a J;refine ZQ rfl J rfl rfl (YV rfl (J.ev rfl)) ?_; clear J a; intro a J;refine ZQ rfl J rfl rfl (ZY (e := 3) (i := i) (size := 1) rfl (J.ev rfl) (J.ev rfl) (by kernel_rfl) rfl (by omega)) ?_; clear J a; intro a J;refine ZQ rfl J rfl rfl (ylo (v := .int .i64 (st.aa.ag.getD i 0)) rfl (J.ev rfl) (E.o.elem1 Zp 5 rfl (Zh (xs := st.aa.ag) (j := i) (d := 0) (by omega)) rfl)) ?_; clear J a; intro a J;refine ZQ rfl J rfl rfl (YO rfl (J.ev rfl) (J.ev rfl) (Yb (by omega))) ?_; clear J a; intro a J;refine ZQ rfl J rfl rfl (ZY (e := 3) (i := i) (size := 1) rfl (J.ev rfl) (J.ev rfl) (by kernel_rfl) rfl (by omega)) ?_; clear J a; intro a J;refine wpStill_nil ?_;refine Yc Zp rfl rfl rfl (J.ev rfl) (J.ev rfl) (by kernel_rfl) E.o 5 rfl (by omega) (z := ((st.aa.ag.getD i 0) + 1)) rfl rfl ?_; clear E; intro w16 E; replace E := Bx.mk E;revert a;refine xne<|xsr<|Xf 1 rfl<|Xf 1 rfl<|Xl 3 E rfl rfl<|xr 1 rfl<|Xf 3 rfl<|Xl 3 E rfl rfl<|xy rfl (vx 3 i 1 rfl) ?_;intro a J;refine Yc Zp rfl rfl rfl (J.ev rfl) (J.ev rfl) (by kernel_rfl) E.o 6 rfl (by omega) (z := st.ar) rfl rfl ?_; clear E; intro w17 E; replace E := Bx.mk E;revert a;refine xne<|xsq ?_;refine hld [2,1] E ?_;clear E;intro w18 E M;refine Hw 0 1 8 E rfl rfl<|Hw 1 0 5 E rfl rfl ?_;refine Zo 2 ?_;refine yos 2 [2,1] M ?_;clear E M;intro w19 E M;refine Zo 3 ?_;refine yos 1 [2,1] M ?_;clear E M;intro w20 E M;refine Hp 4 E rfl ?_;refine hdn ?_;replace E := M; clear M;refine xet<|xre ?_;intro a J;refine Zv J results172 (J.resBox rfl (E.o.box 2 rfl) (by kernel_rfl)) (J.resBox rfl (E.o.box 1 rfl) (by kernel_rfl)) (J.res rfl) ?_;exact .inr ⟨i, hi64, hws, .inr ⟨hpk, rfl, E.o.tail.tail.tail.tail⟩⟩;have hws : Qd st text level = Zao st text := by unfold Qd; rw [hls, if_neg (of_decide_eq_false cc3)]
 obtain ⟨i, hi, hi64⟩ : ∃ i : Nat, Zao st text = i ∧ i < 64 := (U5 _).resolve_left (of_decide_eq_false cc3);intro a J;replace J : Fr 70 a [(1, .string text), (2, .int .i64 level), (3, .pointer (some ⟨b1, 0, none⟩)), (6, .pointer (some ⟨b2, 0, none⟩)), (7, .pointer (some ⟨b3, 0, none⟩)), (8, .bool false), (9, .int .i64 (i : Int)), (22, .bool false)] := by
   rw [← hi]; exact J.ls _
 rw [hi] at hws;revert a;refine xcf rfl<|xsk<|xet<|xsq<|xsr<|xr 2 rfl<|xne<|xcs 28 rfl (fun cc6=>?_) fun cc6=>?_
 exact absurd (of_decide_eq_true cc6) (by omega);refine xcf rfl<|xsk<|xet<|xsr<|xr 1 rfl<|Xf 3 rfl<|Xl 2 E rfl rfl<|xr 2 rfl ?_;refine ycB (Qb (i : Int) st.ar level text _ (by omega)) func187 E ?_;clear E;intro w21 E;refine xr 3 rfl ?_;refine yal z5 E ?_;clear E;intro w22 b6 E;refine yst E 0 ?_;clear E;intro w23 E;replace E:=E.nm;refine xr 1 rfl<|xne<|xsq<|xsr<|xr 2 rfl<|xne<|xcs 41 rfl (fun cc7=>?_) fun cc7=>?_;have hpk : Xu (i : Int) st.ar level text = false := by simpa using cc7
 refine xct rfl<|xsr<|Xw 3 8 E rfl rfl<|xy rfl (vb z5 rfl) ?_;refine yst E 2 ?_;clear E;intro w24 E;replace E:=E.nm;refine yst E 1 ?_;clear E;intro w25 E;replace E:=E.nm;refine xr 1 rfl<|xne<|xre<|xtr ?_;intro a J;refine Zv J results172 (J.resBox rfl (E.o.box 2 rfl) (by kernel_rfl)) (J.resBox rfl (E.o.box 1 rfl) (by kernel_rfl)) (J.res rfl) ?_;exact .inr ⟨i, hi64, hws, .inl ⟨hpk, rfl, E.o.tail.tail.tail.tail⟩⟩;have hpk : Xu (i : Int) st.ar level text = true := by simpa using cc7
 refine xcf rfl<|xsk<|xet<|xsr<|Xf 0 rfl<|Xl 3 E rfl rfl<|xr 2 rfl<|xy rfl (vx 9 i 1 rfl) ?_;intro a J;refine Yc Zi rfl rfl rfl (J.ev rfl) (J.ev rfl) (by kernel_rfl) E.o 4 rfl (by omega) (z := text) rfl rfl ?_; clear E; intro w26 E; replace E := Bx.mk E;refine Zbg<|wp_seq ?_;have hrb := hr i;refine UY 12 (by kernel_rfl) (by kernel_rfl) E.o ?_;simp only [List.take_succ_cons, List.take_zero, List.drop_succ_cons, List.drop_zero];intro w27 E;replace E := Bx.mk E;refine ZQ rfl J rfl rfl (yfa 1 rfl (J.ev rfl)) ?_; clear J a; intro a J;refine ZQ rfl J rfl rfl (yfa 0 rfl (J.ev rfl)) ?_; clear J a; intro a J;refine ZQ rfl J rfl rfl (ylo (v := .slice (some ⟨g1, 0, none⟩) st.aa.ag.length c1) rfl (J.ev rfl) (((E.o.box 3 rfl).cell 1).trans rfl)) ?_; clear J a; intro a J;refine ZQ rfl J rfl rfl (YV rfl (J.ev rfl)) ?_; clear J a; intro a J;refine ZQ rfl J rfl rfl (yfa 1 rfl (J.ev rfl)) ?_; clear J a; intro a J;refine ZQ rfl J rfl rfl (yfa 0 rfl (J.ev rfl)) ?_; clear J a; intro a J;refine ZQ rfl J rfl rfl (ylo (v := .slice (some ⟨g1, 0, none⟩) st.aa.ag.length c1) rfl (J.ev rfl) (((E.o.box 3 rfl).cell 1).trans rfl)) ?_; clear J a; intro a J;refine ZQ rfl J rfl rfl (YV rfl (J.ev rfl)) ?_; clear J a; intro a J;refine ZQ rfl J rfl rfl (ZY (e := 3) (i := i) (size := 1) rfl (J.ev rfl) (J.ev rfl) (by kernel_rfl) rfl (by omega)) ?_; clear J a; intro a J;refine ZQ rfl J rfl rfl (ylo (v := .int .i64 (st.aa.ag.getD i 0)) rfl (J.ev rfl) (E.o.elem1 Zp 5 rfl (Zh (xs := st.aa.ag) (j := i) (d := 0) (by omega)) rfl)) ?_; clear J a; intro a J;refine ZQ rfl J rfl rfl (YO rfl (J.ev rfl) (J.ev rfl) (Yb (by omega))) ?_; clear J a; intro a J;refine ZQ rfl J rfl rfl (ZY (e := 3) (i := i) (size := 1) rfl (J.ev rfl) (J.ev rfl) (by kernel_rfl) rfl (by omega)) ?_; clear J a; intro a J;refine wpStill_nil ?_;refine Yc Zp rfl rfl rfl (J.ev rfl) (J.ev rfl) (by kernel_rfl) E.o 5 rfl (by omega) (z := ((st.aa.ag.getD i 0) + 1)) rfl rfl ?_; clear E; intro w28 E; replace E := Bx.mk E;revert a;refine xne<|xsr<|Xf 1 rfl<|Xf 1 rfl<|Xl 3 E rfl rfl<|xr 1 rfl<|Xf 3 rfl<|Xl 3 E rfl rfl<|xy rfl (vx 3 i 1 rfl) ?_;intro a J;refine Yc Zp rfl rfl rfl (J.ev rfl) (J.ev rfl) (by kernel_rfl) E.o 6 rfl (by omega) (z := st.ar) rfl rfl ?_; clear E; intro w29 E; replace E := Bx.mk E;revert a;refine xne<|xsq ?_;refine hld [2,1] E ?_;clear E;intro w30 E M;refine Hw 0 1 8 E rfl rfl<|Hw 1 0 5 E rfl rfl ?_;refine Zo 2 ?_;refine yos 2 [2,1] M ?_;clear E M;intro w31 E M;refine Zo 3 ?_;refine yos 1 [2,1] M ?_;clear E M;intro w32 E M;refine Hp 4 E rfl ?_;refine hdn ?_;replace E := M; clear M;refine xet<|xre ?_;intro a J;refine Zv J results172 (J.resBox rfl (E.o.box 2 rfl) (by kernel_rfl)) (J.resBox rfl (E.o.box 1 rfl) (by kernel_rfl)) (J.res rfl) ?_;exact .inr ⟨i, hi64, hws, .inr ⟨hpk, rfl, E.o.tail.tail.tail.tail⟩⟩;have hls : ZbD st text level = -1 := by unfold ZbD; rw [cc1, cc2]; rfl
 refine xcf rfl<|xsk<|xet<|xsq<|xsr<|xr 2 rfl<|xne ?_;intro a J;replace J := J.know (k := 22) (c := true) rfl (by decide);refine UX J rfl ?_;have hws : Qd st text level = J6 st.aa := by unfold Qd; rw [if_pos (by rw [hls]; first | omega | (exact of_decide_eq_true (by assumption)))]
 revert a;refine xrl<|Xf 1 rfl<|Xw 2 2 E rfl rfl ?_;refine yem 3 1 E ?_;clear E;intro w33 b7 E;refine ycB (ZaW _ _ _ _ _ _ _ st.aa _ (St.rdOf E.o Zp 4 rfl) (by omega)) func228 E ?_;clear E;intro w34 E;refine xr 1 rfl<|xne<|xsq<|xsr<|xr 2 rfl<|xne<|xcs 28 rfl (fun cc8=>?_) fun cc8=>?_;have hneg := of_decide_eq_true cc8;refine xct rfl<|xsr<|Xw 2 8 E rfl rfl<|xy rfl (vb z5 rfl) ?_;refine yst E 1 ?_;clear E;intro w35 E;replace E:=E.nm;refine yst E 0 ?_;clear E;intro w36 E;replace E:=E.nm;refine xr 1 rfl<|xne<|xre<|xtr ?_;intro a J;refine Zv J results172 (J.resBox rfl (E.o.box 1 rfl) (by kernel_rfl)) (J.resBox rfl (E.o.box 0 rfl) (by kernel_rfl)) (J.res rfl) ?_;exact .inl ⟨by rw [hws]; exact hneg, rfl, E.o.tail.tail.tail⟩;obtain ⟨i, hi, hi64⟩ : ∃ i : Nat, J6 st.aa = i ∧ i < 64 := (U5 _).resolve_left (of_decide_eq_false cc8);intro a J;replace J : Fr 70 a [(1, .string text), (2, .int .i64 level), (3, .pointer (some ⟨b1, 0, none⟩)), (6, .pointer (some ⟨b2, 0, none⟩)), (7, .pointer (some ⟨b3, 0, none⟩)), (8, .bool false), (9, .int .i64 (i : Int)), (22, .bool true), (28, .bool false)] := by
   rw [← hi]; exact J.ls _
 rw [hi] at hws;revert a;refine xcf rfl<|xsk<|xet<|xsr<|xr 1 rfl<|Xf 3 rfl<|Xl 2 E rfl rfl<|xr 2 rfl ?_;refine ycB (Qb (i : Int) st.ar level text _ (by omega)) func187 E ?_;clear E;intro w37 E;refine xr 3 rfl ?_;refine yal z5 E ?_;clear E;intro w38 b8 E;refine yst E 0 ?_;clear E;intro w39 E;replace E:=E.nm;refine xr 1 rfl<|xne<|xsq<|xsr<|xr 2 rfl<|xne<|xcs 41 rfl (fun cc9=>?_) fun cc9=>?_;have hpk : Xu (i : Int) st.ar level text = false := by simpa using cc9
 refine xct rfl<|xsr<|Xw 3 8 E rfl rfl<|xy rfl (vb z5 rfl) ?_;refine yst E 2 ?_;clear E;intro w40 E;replace E:=E.nm;refine yst E 1 ?_;clear E;intro w41 E;replace E:=E.nm;refine xr 1 rfl<|xne<|xre<|xtr ?_;intro a J;refine Zv J results172 (J.resBox rfl (E.o.box 2 rfl) (by kernel_rfl)) (J.resBox rfl (E.o.box 1 rfl) (by kernel_rfl)) (J.res rfl) ?_;exact .inr ⟨i, hi64, hws, .inl ⟨hpk, rfl, E.o.tail.tail.tail.tail⟩⟩;have hpk : Xu (i : Int) st.ar level text = true := by simpa using cc9
 refine xcf rfl<|xsk<|xet<|xsr<|Xf 0 rfl<|Xl 3 E rfl rfl<|xr 2 rfl<|xy rfl (vx 9 i 1 rfl) ?_;intro a J;refine Yc Zi rfl rfl rfl (J.ev rfl) (J.ev rfl) (by kernel_rfl) E.o 4 rfl (by omega) (z := text) rfl rfl ?_; clear E; intro w42 E; replace E := Bx.mk E;refine Zbg<|wp_seq ?_;have hrb := hr i;refine UY 12 (by kernel_rfl) (by kernel_rfl) E.o ?_;simp only [List.take_succ_cons, List.take_zero, List.drop_succ_cons, List.drop_zero];intro w43 E;replace E := Bx.mk E;refine ZQ rfl J rfl rfl (yfa 1 rfl (J.ev rfl)) ?_; clear J a; intro a J;refine ZQ rfl J rfl rfl (yfa 0 rfl (J.ev rfl)) ?_; clear J a; intro a J;refine ZQ rfl J rfl rfl (ylo (v := .slice (some ⟨g1, 0, none⟩) st.aa.ag.length c1) rfl (J.ev rfl) (((E.o.box 3 rfl).cell 1).trans rfl)) ?_; clear J a; intro a J;refine ZQ rfl J rfl rfl (YV rfl (J.ev rfl)) ?_; clear J a; intro a J;refine ZQ rfl J rfl rfl (yfa 1 rfl (J.ev rfl)) ?_; clear J a; intro a J;refine ZQ rfl J rfl rfl (yfa 0 rfl (J.ev rfl)) ?_; clear J a; intro a J;refine ZQ rfl J rfl rfl (ylo (v := .slice (some ⟨g1, 0, none⟩) st.aa.ag.length c1) rfl (J.ev rfl) (((E.o.box 3 rfl).cell 1).trans rfl)) ?_; clear J a; intro a J;refine ZQ rfl J rfl rfl (YV rfl (J.ev rfl)) ?_; clear J a; intro a J;refine ZQ rfl J rfl rfl (ZY (e := 3) (i := i) (size := 1) rfl (J.ev rfl) (J.ev rfl) (by kernel_rfl) rfl (by omega)) ?_; clear J a; intro a J;refine ZQ rfl J rfl rfl (ylo (v := .int .i64 (st.aa.ag.getD i 0)) rfl (J.ev rfl) (E.o.elem1 Zp 5 rfl (Zh (xs := st.aa.ag) (j := i) (d := 0) (by omega)) rfl)) ?_; clear J a; intro a J;refine ZQ rfl J rfl rfl (YO rfl (J.ev rfl) (J.ev rfl) (Yb (by omega))) ?_; clear J a; intro a J;refine ZQ rfl J rfl rfl (ZY (e := 3) (i := i) (size := 1) rfl (J.ev rfl) (J.ev rfl) (by kernel_rfl) rfl (by omega)) ?_; clear J a; intro a J;refine wpStill_nil ?_;refine Yc Zp rfl rfl rfl (J.ev rfl) (J.ev rfl) (by kernel_rfl) E.o 5 rfl (by omega) (z := ((st.aa.ag.getD i 0) + 1)) rfl rfl ?_; clear E; intro w44 E; replace E := Bx.mk E;revert a;refine xne<|xsr<|Xf 1 rfl<|Xf 1 rfl<|Xl 3 E rfl rfl<|xr 1 rfl<|Xf 3 rfl<|Xl 3 E rfl rfl<|xy rfl (vx 3 i 1 rfl) ?_;intro a J;refine Yc Zp rfl rfl rfl (J.ev rfl) (J.ev rfl) (by kernel_rfl) E.o 6 rfl (by omega) (z := st.ar) rfl rfl ?_; clear E; intro w45 E; replace E := Bx.mk E;revert a;refine xne<|xsq ?_;refine hld [2,1] E ?_;clear E;intro w46 E M;refine Hw 0 1 8 E rfl rfl<|Hw 1 0 5 E rfl rfl ?_;refine Zo 2 ?_;refine yos 2 [2,1] M ?_;clear E M;intro w47 E M;refine Zo 3 ?_;refine yos 1 [2,1] M ?_;clear E M;intro w48 E M;refine Hp 4 E rfl ?_;refine hdn ?_;replace E := M; clear M;refine xet<|xre ?_;intro a J;refine Zv J results172 (J.resBox rfl (E.o.box 2 rfl) (by kernel_rfl)) (J.resBox rfl (E.o.box 1 rfl) (by kernel_rfl)) (J.res rfl) ?_;exact .inr ⟨i, hi64, hws, .inr ⟨hpk, rfl, E.o.tail.tail.tail.tail⟩⟩;have hls : ZbD st text level = -1 := by unfold ZbD; rw [cc1]; rfl
 refine xr 3 rfl<|xne<|xcf rfl<|xsk<|xet<|xsq<|xsr<|xr 2 rfl<|xne ?_;intro a J;replace J := J.know (k := 22) (c := true) rfl (by decide);refine UX J rfl ?_;have hws : Qd st text level = J6 st.aa := by unfold Qd; rw [if_pos (by rw [hls]; first | omega | (exact of_decide_eq_true (by assumption)))]
 revert a;refine xrl<|Xf 1 rfl<|Xw 2 2 E rfl rfl ?_;refine yem 3 1 E ?_;clear E;intro w49 b9 E;refine ycB (ZaW _ _ _ _ _ _ _ st.aa _ (St.rdOf E.o Zp 4 rfl) (by omega)) func228 E ?_;clear E;intro w50 E;refine xr 1 rfl<|xne<|xsq<|xsr<|xr 2 rfl<|xne<|xcs 28 rfl (fun cc10=>?_) fun cc10=>?_;have hneg := of_decide_eq_true cc10;refine xct rfl<|xsr<|Xw 2 8 E rfl rfl<|xy rfl (vb z5 rfl) ?_;refine yst E 1 ?_;clear E;intro w51 E;replace E:=E.nm;refine yst E 0 ?_;clear E;intro w52 E;replace E:=E.nm;refine xr 1 rfl<|xne<|xre<|xtr ?_;intro a J;refine Zv J results172 (J.resBox rfl (E.o.box 1 rfl) (by kernel_rfl)) (J.resBox rfl (E.o.box 0 rfl) (by kernel_rfl)) (J.res rfl) ?_;exact .inl ⟨by rw [hws]; exact hneg, rfl, E.o.tail.tail.tail⟩;obtain ⟨i, hi, hi64⟩ : ∃ i : Nat, J6 st.aa = i ∧ i < 64 := (U5 _).resolve_left (of_decide_eq_false cc10);intro a J;replace J : Fr 70 a [(1, .string text), (2, .int .i64 level), (3, .pointer (some ⟨b1, 0, none⟩)), (6, .pointer (some ⟨b2, 0, none⟩)), (7, .pointer (some ⟨b3, 0, none⟩)), (8, .bool false), (9, .int .i64 (i : Int)), (22, .bool true), (28, .bool false)] := by
   rw [← hi]; exact J.ls _
 rw [hi] at hws;revert a;refine xcf rfl<|xsk<|xet<|xsr<|xr 1 rfl<|Xf 3 rfl<|Xl 2 E rfl rfl<|xr 2 rfl ?_;refine ycB (Qb (i : Int) st.ar level text _ (by omega)) func187 E ?_;clear E;intro w53 E;refine xr 3 rfl ?_;refine yal z5 E ?_;clear E;intro w54 b10 E;refine yst E 0 ?_;clear E;intro w55 E;replace E:=E.nm;refine xr 1 rfl<|xne<|xsq<|xsr<|xr 2 rfl<|xne<|xcs 41 rfl (fun cc11=>?_) fun cc11=>?_;have hpk : Xu (i : Int) st.ar level text = false := by simpa using cc11
 refine xct rfl<|xsr<|Xw 3 8 E rfl rfl<|xy rfl (vb z5 rfl) ?_;refine yst E 2 ?_;clear E;intro w56 E;replace E:=E.nm;refine yst E 1 ?_;clear E;intro w57 E;replace E:=E.nm;refine xr 1 rfl<|xne<|xre<|xtr ?_;intro a J;refine Zv J results172 (J.resBox rfl (E.o.box 2 rfl) (by kernel_rfl)) (J.resBox rfl (E.o.box 1 rfl) (by kernel_rfl)) (J.res rfl) ?_;exact .inr ⟨i, hi64, hws, .inl ⟨hpk, rfl, E.o.tail.tail.tail.tail⟩⟩;have hpk : Xu (i : Int) st.ar level text = true := by simpa using cc11
 refine xcf rfl<|xsk<|xet<|xsr<|Xf 0 rfl<|Xl 3 E rfl rfl<|xr 2 rfl<|xy rfl (vx 9 i 1 rfl) ?_;intro a J;refine Yc Zi rfl rfl rfl (J.ev rfl) (J.ev rfl) (by kernel_rfl) E.o 4 rfl (by omega) (z := text) rfl rfl ?_; clear E; intro w58 E; replace E := Bx.mk E;refine Zbg<|wp_seq ?_;have hrb := hr i;refine UY 12 (by kernel_rfl) (by kernel_rfl) E.o ?_;simp only [List.take_succ_cons, List.take_zero, List.drop_succ_cons, List.drop_zero];intro w59 E;replace E := Bx.mk E;refine ZQ rfl J rfl rfl (yfa 1 rfl (J.ev rfl)) ?_; clear J a; intro a J;refine ZQ rfl J rfl rfl (yfa 0 rfl (J.ev rfl)) ?_; clear J a; intro a J;refine ZQ rfl J rfl rfl (ylo (v := .slice (some ⟨g1, 0, none⟩) st.aa.ag.length c1) rfl (J.ev rfl) (((E.o.box 3 rfl).cell 1).trans rfl)) ?_; clear J a; intro a J;refine ZQ rfl J rfl rfl (YV rfl (J.ev rfl)) ?_; clear J a; intro a J;refine ZQ rfl J rfl rfl (yfa 1 rfl (J.ev rfl)) ?_; clear J a; intro a J;refine ZQ rfl J rfl rfl (yfa 0 rfl (J.ev rfl)) ?_; clear J a; intro a J;refine ZQ rfl J rfl rfl (ylo (v := .slice (some ⟨g1, 0, none⟩) st.aa.ag.length c1) rfl (J.ev rfl) (((E.o.box 3 rfl).cell 1).trans rfl)) ?_; clear J a; intro a J;refine ZQ rfl J rfl rfl (YV rfl (J.ev rfl)) ?_; clear J a; intro a J;refine ZQ rfl J rfl rfl (ZY (e := 3) (i := i) (size := 1) rfl (J.ev rfl) (J.ev rfl) (by kernel_rfl) rfl (by omega)) ?_; clear J a; intro a J;refine ZQ rfl J rfl rfl (ylo (v := .int .i64 (st.aa.ag.getD i 0)) rfl (J.ev rfl) (E.o.elem1 Zp 5 rfl (Zh (xs := st.aa.ag) (j := i) (d := 0) (by omega)) rfl)) ?_; clear J a; intro a J;refine ZQ rfl J rfl rfl (YO rfl (J.ev rfl) (J.ev rfl) (Yb (by omega))) ?_; clear J a; intro a J;refine ZQ rfl J rfl rfl (ZY (e := 3) (i := i) (size := 1) rfl (J.ev rfl) (J.ev rfl) (by kernel_rfl) rfl (by omega)) ?_; clear J a; intro a J;refine wpStill_nil ?_;refine Yc Zp rfl rfl rfl (J.ev rfl) (J.ev rfl) (by kernel_rfl) E.o 5 rfl (by omega) (z := ((st.aa.ag.getD i 0) + 1)) rfl rfl ?_; clear E; intro w60 E; replace E := Bx.mk E;revert a;refine xne<|xsr<|Xf 1 rfl<|Xf 1 rfl<|Xl 3 E rfl rfl<|xr 1 rfl<|Xf 3 rfl<|Xl 3 E rfl rfl<|xy rfl (vx 3 i 1 rfl) ?_;intro a J;refine Yc Zp rfl rfl rfl (J.ev rfl) (J.ev rfl) (by kernel_rfl) E.o 6 rfl (by omega) (z := st.ar) rfl rfl ?_; clear E; intro w61 E; replace E := Bx.mk E;revert a;refine xne<|xsq ?_;refine hld [2,1] E ?_;clear E;intro w62 E M;refine Hw 0 1 8 E rfl rfl<|Hw 1 0 5 E rfl rfl ?_;refine Zo 2 ?_;refine yos 2 [2,1] M ?_;clear E M;intro w63 E M;refine Zo 3 ?_;refine yos 1 [2,1] M ?_;clear E M;intro w64 E M;refine Hp 4 E rfl ?_;refine hdn ?_;replace E := M; clear M;refine xet<|xre ?_;intro a J;refine Zv J results172 (J.resBox rfl (E.o.box 2 rfl) (by kernel_rfl)) (J.resBox rfl (E.o.box 1 rfl) (by kernel_rfl)) (J.res rfl) ?_;exact .inr ⟨i, hi64, hws, .inr ⟨hpk, rfl, E.o.tail.tail.tail.tail⟩⟩
theorem Zh4.all {s : Zq} (h : Zh4 s) (i : Nat) : 0 ≤ s.ag.getD i 0 ∧ s.ag.getD i 0 ≤ 900 := by
 by_cases hi : i < 64
 ·have := h.each i hi; omega
 ·rw [show s.ag.getD i 0 = 0 by simp [List.getD, List.getElem?_eq_none (show s.ag.length ≤ i by rw [h.refs]; omega)]]; omega
open Go.Lib
structure Zb where
  aD : ByteArray
  aG : Int
def Zb.zero : Zb := ⟨ByteArray.empty, 0⟩
def Zb.cells (e : Zb) : List Value := [.string e.aD, .int .i64 e.aG]
theorem Zb.cells_len (e : Zb) : e.cells.length = 2 := rfl
def ZdV (e : Zb) : Bool := Yt e.aD && inB e.aG 1 15
def X5 (l : List Zb) (i : Nat) : Bool := ZdV (l.getD i Zb.zero) && (i == 0 || Op.bytesLess (l.getD (i - 1) Zb.zero).aD.toList (l.getD i Zb.zero).aD.toList)
def YE (l : List Zb) : Bool := decide (∀ i, i < l.length → X5 l i = true) && decide (l.length ≤ 12)
theorem UC {l : List Zb} (h : YE l = true) : (∀ i, i < l.length → X5 l i = true) ∧ l.length ≤ 12 := by
 unfold YE at h;rw [Bool.and_eq_true] at h;exact ⟨of_decide_eq_true h.1, of_decide_eq_true h.2⟩
theorem QS {l : List Zb} (h : ∀ i, i < l.length → X5 l i = true) (hl : l.length ≤ 12) : YE l = true := by
 unfold YE; rw [decide_eq_true h, decide_eq_true hl]; rfl
theorem Zce {l : List Zb} {i : Nat} (hi : i < l.length) (h : X5 l i = false) : YE l = false := by
 unfold YE; rw [decide_eq_false fun k => by rw [k i hi] at h; cases h]; rfl
theorem Ziu {l : List Zb} {i : Nat} (h : Yt (l.getD i Zb.zero).aD = false) : X5 l i = false := by unfold X5 ZdV; rw [h]; rfl
theorem Zmc {l : List Zb} {i : Nat} (h : inB (l.getD i Zb.zero).aG 1 15 = false) : X5 l i = false := by unfold X5 ZdV; rw [h, Bool.and_false]; rfl
theorem Ziv {l : List Zb} {i : Nat} (h0 : i ≠ 0) (h : Op.bytesLess (l.getD (i - 1) Zb.zero).aD.toList (l.getD i Zb.zero).aD.toList = false) : X5 l i = false := by
 unfold X5;rw [h, beq_eq_false_iff_ne.2 h0]; simp
theorem Zfg {l : List Zb} {i : Nat} (h1 : Yt (l.getD i Zb.zero).aD = true) (h2 : inB (l.getD i Zb.zero).aG 1 15 = true) (h3 : i = 0 ∨ Op.bytesLess (l.getD (i - 1) Zb.zero).aD.toList (l.getD i Zb.zero).aD.toList = true) : X5 l i = true := by
 unfold X5 ZdV;rw [h1, h2];rcases h3 with h3 | h3
 ·rw [h3]; rfl
 ·rw [h3]; simp
theorem Zho {l : List Zb} {i : Nat} (h : X5 l i = true) : Yt (l.getD i Zb.zero).aD = true ∧ 1 ≤ (l.getD i Zb.zero).aG ∧ (l.getD i Zb.zero).aG ≤ 15 ∧ (i = 0 ∨ Op.bytesLess (l.getD (i - 1) Zb.zero).aD.toList (l.getD i Zb.zero).aD.toList = true) := by
 unfold X5 ZdV at h;simp only [Bool.and_eq_true, Bool.or_eq_true, beq_iff_eq] at h;have := Zu h.1.2;exact ⟨h.1.1, this.1, this.2, h.2⟩
theorem Y3 {l : List Zb} (h : YE l = true) {e : Zb} (he : e ∈ l) : Yt e.aD = true ∧ 1 ≤ e.aG ∧ e.aG ≤ 15 := by
 obtain ⟨i, hi, rfl⟩ := List.getElem_of_mem he;have := Zho ((UC h).1 i hi);rw [show l.getD i Zb.zero = l[i] by rw [getD_eq_getElem?_getD, List.getElem?_eq_getElem hi]; rfl] at this;exact ⟨this.1, this.2.1, this.2.2.1⟩
def ZdW (e : Zb) : List UInt8 := e.aD.data.toList ++ 61 :: (ZF e.aG).data.toList
def JP (l : List Zb) : List UInt8 := l.flatMap fun e => ZdW e ++ [59]
def Qo (l : List Zb) : ByteArray := ⟨(JP l).toArray⟩
theorem ZaX (l : List Zb) : (Qo l).data.toList = JP l := rfl
theorem JQ (e : Zb) (l : List Zb) : JP (e :: l) = ZdW e ++ 59 :: JP l := by unfold JP; rw [flatMap_cons, List.append_assoc]; rfl
theorem Zkj (a b : List Zb) : JP (a ++ b) = JP a ++ JP b := by unfold JP; rw [List.flatMap_append]
structure IsEnts (s : ByteArray) (l : List Zb) : Prop where
  ok : YE l = true
  is : Qo l = s
theorem ZbH {s : ByteArray} (h : Yt s = true) (c : UInt8) (hc : Jc c = false) : ∀ x ∈ s.data.toList, x ≠ c := by
 unfold Yt at h;rw [Bool.and_eq_true] at h;intro x hx e;have := List.all_eq_true.1 h.2 x hx;rw [e, hc] at this; cases this
theorem Zcf {s : ByteArray} (h : Yt s = true) : 1 ≤ s.size ∧ s.size ≤ 4 := by
 unfold Yt at h;rw [Bool.and_eq_true] at h;have := Zu h.1
 omega
theorem Zoz (n : Int) (c : UInt8) (hc : digitVal c = none) : c ∉ (ZF n).data.toList := fun h => Zf3 c hc n c h rfl
theorem ZdX {e : Zb} (h : Yt e.aD = true) : (59 : UInt8) ∉ ZdW e := by
 unfold ZdW;intro hm;rcases mem_append.1 hm with hm | hm
 ·exact ZbH h 59 (by decide) 59 hm rfl
 ·rcases mem_cons.1 hm with hm | hm
  ·cases hm
  ·exact Zoz _ 59 (by decide) hm
theorem Zge {c : UInt8} : ∀ {a b x y : List UInt8}, c ∉ a → c ∉ x → a ++ c :: b = x ++ c :: y → a = x ∧ b = y
 | [], b, [], y, _, _, h => by simpa using h
 | [], b, z :: x, y, _, hx, h => by
  simp only [nil_append, List.cons_append, List.cons.injEq] at h;exact absurd (h.1 ▸ mem_cons_self ..) hx
 | z :: a, b, [], y, ha, _, h => by
  simp only [nil_append, List.cons_append, List.cons.injEq] at h;exact absurd (h.1 ▸ mem_cons_self ..) ha
 | z :: a, b, u :: x, y, ha, hx, h => by
  simp only [List.cons_append, List.cons.injEq] at h;obtain ⟨e1, e2⟩ := Zge (fun hm => ha (mem_cons_of_mem _ hm)) (fun hm => hx (mem_cons_of_mem _ hm)) h.2;exact ⟨by rw [h.1, e1], e2⟩
theorem Zmd {m n : Int} (hm : 0 ≤ m ∧ m ≤ 999999999) (hn : 0 ≤ n ∧ n ≤ 999999999) (h : ZF m = ZF n) : m = n := by
 have h1 := Yw hm;rw [h, Yw hn] at h1;have := Option.some.inj h1
 omega
theorem JR {a b : ByteArray} (h : a.data.toList = b.data.toList) : a = b := by
 cases a; cases b
 simp only [ByteArray.mk.injEq];exact Array.toList_inj.1 h
theorem Zme {e f : Zb} (h1 : Yt e.aD = true) (h2 : Yt f.aD = true) (i1 : 0 ≤ e.aG ∧ e.aG ≤ 999999999) (i2 : 0 ≤ f.aG ∧ f.aG ≤ 999999999) (h : ZdW e = ZdW f) : e = f := by
 obtain ⟨a, b⟩ := Zge (fun hm => ZbH h1 61 (by decide) 61 hm rfl) (fun hm => ZbH h2 61 (by decide) 61 hm rfl) h
 cases e; cases f
 simp only at *;rw [JR a, Zmd i1 i2 (JR b)]
theorem Zfh : ∀ {l m : List Zb}, (∀ e ∈ l, Yt e.aD = true ∧ 1 ≤ e.aG ∧ e.aG ≤ 15) → (∀ e ∈ m, Yt e.aD = true ∧ 1 ≤ e.aG ∧ e.aG ≤ 15) → JP l = JP m → l = m
 | [], [], _, _, _ => rfl
 | [], e :: m, _, _, h => by rw [JQ] at h; simp [JP] at h
 | e :: l, [], _, _, h => by rw [JQ] at h; simp [JP] at h
 | e :: l, f :: m, hl, hm, h => by
  have a := hl e (mem_cons_self ..);have b := hm f (mem_cons_self ..);rw [JQ, JQ] at h;obtain ⟨e1, e2⟩ := Zge (ZdX a.1) (ZdX b.1) h;rw [Zme a.1 b.1 (by omega) (by omega) e1, Zfh (fun x hx => hl x (mem_cons_of_mem _ hx)) (fun x hx => hm x (mem_cons_of_mem _ hx)) e2]
theorem IsEnts.one {s : ByteArray} {l m : List Zb} (h : IsEnts s l) (k : IsEnts s m) : l = m :=
 Zfh (fun _ he => Y3 h.ok he) (fun _ he => Y3 k.ok he) (congrArg (fun s : ByteArray => s.data.toList) (h.is.trans k.is.symm))
open Classical in
noncomputable def entsG (s : ByteArray) : Option (List Zb) := if h : ∃ l, IsEnts s l then some h.choose else none
theorem Zcg {s : ByteArray} {l : List Zb} (h : IsEnts s l) : entsG s = some l := by
 have he : ∃ l, IsEnts s l := ⟨l, h⟩;unfold entsG;rw [dif_pos he, he.choose_spec.one h]
theorem ZbI {s : ByteArray} (h : ∀ l, IsEnts s l → False) : entsG s = none := by
 unfold entsG;rw [dif_neg fun ⟨l, hl⟩ => h l hl]
theorem Zmf {s : ByteArray} {l : List Zb} (h : entsG s = some l) : IsEnts s l := by
 by_cases he : ∃ m, IsEnts s m
 ·obtain ⟨m, hm⟩ := he
  rw [Zcg hm] at h;obtain rfl := Option.some.inj h;exact hm
 ·rw [ZbI fun m hm => he ⟨m, hm⟩] at h; cases h
noncomputable def blobL (st : Za) : List PtrD → Option ByteArray
 | [] => some ByteArray.empty
 | p :: r => bif (Zm st p).size == 0 || (!r.isEmpty && (Zm st p).size != 128) then none else (blobL st r).map (Zm st p ++ ·)
theorem Zhp {st : Za} {p : PtrD} {r : List PtrD} (h : (Zm st p).size = 0 ∨ r ≠ [] ∧ (Zm st p).size ≠ 128) : blobL st (p :: r) = none := by
 show (bif _ then _ else _) = _;have : ((Zm st p).size == 0 || (!r.isEmpty && (Zm st p).size != 128)) = true := by
  rcases h with h | ⟨h, h2⟩
  ·rw [h]; rfl
  ·cases r with
   | nil => exact absurd rfl h
   | cons a b => simp [h2]
 rw [this]; rfl
theorem Zfi {st : Za} {p : PtrD} {r : List PtrD} (h : (Zm st p).size ≠ 0) (h2 : r = [] ∨ (Zm st p).size = 128) : blobL st (p :: r) = (blobL st r).map (Zm st p ++ ·) := by
 show (bif _ then _ else _) = _;have : ((Zm st p).size == 0 || (!r.isEmpty && (Zm st p).size != 128)) = false := by
  rw [beq_eq_false_iff_ne.2 h, Bool.false_or];rcases h2 with h2 | h2
  ·rw [h2]; rfl
  ·rw [h2]; simp
 rw [this]; rfl
theorem Zfj {st : Za} {xs : List PtrD} {i : Nat} {b : ByteArray} (h : blobL st xs = (blobL st (xs.drop i)).map (b ++ ·)) (hi : i < xs.length) (h1 : (Zm st (xs.getD i PtrD.zero)).size ≠ 0) (h2 : i + 1 = xs.length ∨ (Zm st (xs.getD i PtrD.zero)).size = 128) : blobL st xs = (blobL st (xs.drop (i + 1))).map ((b ++ Zm st (xs.getD i PtrD.zero)) ++ ·) := by
 rw [h, ZdU hi, Zfi h1 (by
  rcases h2 with h2 | h2
  ·exact .inl (List.drop_of_length_le (by omega))
  ·exact .inr h2), Zl7]
theorem Zfk {st : Za} {xs : List PtrD} {i : Nat} {b : ByteArray} (h : blobL st xs = (blobL st (xs.drop i)).map (b ++ ·)) (hi : i < xs.length) (h1 : (Zm st (xs.getD i PtrD.zero)).size = 0 ∨ i + 1 < xs.length ∧ (Zm st (xs.getD i PtrD.zero)).size ≠ 128) : blobL st xs = none := by
 rw [h, ZdU hi, Zhp (by
  rcases h1 with h1 | ⟨h1, h2⟩
  ·exact .inl h1
  ·exact .inr ⟨fun e => by have := congrArg length e; rw [List.length_drop, length_nil] at this; omega, h2⟩)]; rfl
theorem Zmg {st : Za} {xs : List PtrD} {i : Nat} {b : ByteArray} (h : blobL st xs = (blobL st (xs.drop i)).map (b ++ ·)) (hi : ¬ i < xs.length) : blobL st xs = some b := by
 rw [h, List.drop_of_length_le (by omega)];show some (b ++ ByteArray.empty) = some b;rw [show b ++ ByteArray.empty = b from JR (by rw [Zz]; exact append_nil _)]
theorem Ziw {st : Za} {xs : List PtrD} : blobL st xs = (blobL st (xs.drop 0)).map ((⟨#[]⟩ : ByteArray) ++ ·) := by
 rw [List.drop_zero]
 cases blobL st xs with
 | none => rfl
 | some b => exact congrArg some (JR (by rw [Zz]; rfl)).symm
theorem ZdY {st : Za} (hr : ∀ p, (Zm st p).size ≤ 128) : ∀ {l : List PtrD} {t : ByteArray}, blobL st l = some t → t.size ≤ 128 * l.length
 | [], t, h => by obtain rfl := Option.some.inj h; exact Nat.zero_le _
 | p :: r, t, h => by
  by_cases hc : (Zm st p).size = 0 ∨ r ≠ [] ∧ (Zm st p).size ≠ 128
  ·rw [Zhp hc] at h; cases h
  ·have h1 : (Zm st p).size ≠ 0 := fun e => hc (.inl e)
   have h2 : r = [] ∨ (Zm st p).size = 128 := by
    by_cases hn : r = []
    ·exact .inl hn
    ·by_cases h3 : (Zm st p).size = 128
     ·exact .inr h3
     ·exact absurd (.inr ⟨hn, h3⟩) hc
   rw [Zfi h1 h2] at h
   cases hb : blobL st r with
   | none => rw [hb] at h; cases h
   | some u =>
    rw [hb] at h;obtain rfl := Option.some.inj h;have := ZdY hr hb;have := hr p;rw [Zk, length_cons]; omega
noncomputable def VP (st : Za) (n : Zc) : Option (List Zb) := (leavesF st n.au).bind fun l => (blobL st l).bind fun s => bif (s.size : Int) == n.av then entsG s else none
theorem Zfl {st : Za} {n : Zc} (h : leavesF st n.au = none) : VP st n = none := by unfold VP; rw [h]; rfl
theorem Zfm {st : Za} {n : Zc} {l : List PtrD} (h : leavesF st n.au = some l) (hb : blobL st l = none) : VP st n = none := by unfold VP; rw [h]; simp only [Option.bind_some]; rw [hb]; rfl
theorem Zfn {st : Za} {n : Zc} {l : List PtrD} {s : ByteArray} (h : leavesF st n.au = some l) (hb : blobL st l = some s) (hs : (s.size : Int) ≠ n.av) : VP st n = none := by
 unfold VP; rw [h]; simp only [Option.bind_some]; rw [hb];show (bif _ then _ else _) = _;rw [beq_eq_false_iff_ne.2 hs]; rfl
theorem ZdZ {st : Za} {n : Zc} {l : List PtrD} {s : ByteArray} (h : leavesF st n.au = some l) (hb : blobL st l = some s) (hs : (s.size : Int) = n.av) : VP st n = entsG s := by
 unfold VP; rw [h]; simp only [Option.bind_some]; rw [hb];show (bif _ then _ else _) = _;rw [beq_iff_eq.2 hs]; rfl
theorem Zjp {st : Za} {n : Zc} {es : List Zb} (h : VP st n = some es) : YE es = true := by
 cases hl : leavesF st n.au with
 | none => rw [Zfl hl] at h; cases h
 | some l =>
  cases hb : blobL st l with
  | none => rw [Zfm hl hb] at h; cases h
  | some s =>
   by_cases hs : (s.size : Int) = n.av
   ·rw [ZdZ hl hb hs] at h; exact (Zmf h).ok
   ·rw [Zfn hl hb hs] at h; cases h
end Go.Proofs.YthnbgnjpbmnelaaGreatDoor
namespace Go.Proofs.YthnbgnjpbmnelaaGreatDoor.LinkP
set_option maxHeartbeats 2000000
open Go.Proofs.Tryz
open _root_.ByteArray (size_extract)
open List (append_nil flatMap_cons flatMap_nil getD_eq_getElem?_getD length length_append length_cons length_map length_nil length_set length_take map_cons mem_append mem_cons mem_cons_of_mem mem_cons_self mem_singleton nil_append replicate)
set_option linter.unusedVariables false
set_option linter.unusedSimpArgs false
set_option maxRecDepth 100000
section
variable (kd : Nat → List Nat) (isF valid : Nat → Bool)
open Classical in
variable {kd isF valid}
end
section
variable {α : Type} {id : α → Nat} {ch : α → List α} {kd : Nat → List Nat} {isF valid : Nat → Bool} {lk : Nat → Nat}
theorem YD {l : List Nat} {i : Nat} (h : i < l.length) : l.getD i 0 ∈ l := by
 rw [getD_eq_getElem?_getD, List.getElem?_eq_getElem h]; exact List.getElem_mem _
end
end Go.Proofs.YthnbgnjpbmnelaaGreatDoor.LinkP
namespace Go.Proofs.YthnbgnjpbmnelaaGreatDoor
set_option maxHeartbeats 2000000
open Go.Proofs.Tryz
open _root_.ByteArray (size_extract)
open List (append_nil flatMap_cons flatMap_nil getD_eq_getElem?_getD length length_append length_cons length_map length_nil length_set length_take map_cons mem_append mem_cons mem_cons_of_mem mem_cons_self mem_singleton nil_append replicate)
set_option linter.unusedVariables false
set_option linter.unusedSimpArgs false
set_option maxRecDepth 100000
open Go.RowKit
structure Zpi where
  aE : ByteArray
  aG : Int
noncomputable def entK (st : Za) (ns : List (Option Zc)) (k : Nat) : List Zb := match ns.getD k none with
 | none => []
 | some n => bif n.ak == 1 then [] else (VP st n).getD []
def Zgf (ns : List (Option Zc)) (k : Nat) : Bool := (ns.getD k none).isSome
open Classical in
open Classical in
theorem Zfo {st : Za} {ns : List (Option Zc)} {k : Nat} (h : ns.getD k none = none) : entK st ns k = [] := by unfold entK; rw [h]
theorem Zfp {st : Za} {ns : List (Option Zc)} {k : Nat} {n : Zc} (h : ns.getD k none = some n) (hf : (n.ak == 1) = true) : entK st ns k = [] := by unfold entK; rw [h]; show (bif _ then _ else _) = _; rw [hf]; rfl
theorem Zhq {st : Za} {ns : List (Option Zc)} {k : Nat} {n : Zc} {es : List Zb} (h : ns.getD k none = some n) (hf : (n.ak == 1) = false) (hd : VP st n = some es) : entK st ns k = es := by unfold entK; rw [h]; show (bif _ then _ else _) = _; rw [hf, hd]; rfl
theorem Zhr {ns : List (Option Zc)} {k : Nat} {n : Zc} (h : ns.getD k none = some n) : Zgf ns k = true := by unfold Zgf; rw [h]; rfl
theorem Zkk {ns : List (Option Zc)} {k : Nat} (h : Zgf ns k = true) : k < ns.length := by
 by_cases hk : k < ns.length
 ·exact hk
 ·unfold Zgf at h
  rw [getD_eq_getElem?_getD, List.getElem?_eq_none (by omega)] at h; cases h
theorem Zgg {st : Za} {ns : List (Option Zc)} (k : Nat) : YE (entK st ns k) = true := by
 cases hn : ns.getD k none with
 | none => rw [Zfo hn]; exact QS (fun i hi => absurd hi (Nat.not_lt_zero _)) (Nat.zero_le _)
 | some n =>
  cases hf : (n.ak == 1) with
  | true => rw [Zfp hn hf]; exact QS (fun i hi => absurd hi (Nat.not_lt_zero _)) (Nat.zero_le _)
  | false =>
   cases hd : VP st n with
   | some es => rw [Zhq hn hf hd]; exact Zjp hd
   | none =>
    unfold entK; rw [hn]; show YE (bif _ then _ else _) = _; rw [hf, hd];exact QS (fun i hi => absurd hi (Nat.not_lt_zero _)) (Nat.zero_le _)
structure ZbJ (ns : List (Option Zc)) : Prop where
  len : ns.length ≤ 16
  ok : ∀ k n, ns.getD k none = some n → n.ok = true
theorem ZaY {st : Za} {t : Zd} {ns : List (Option Zc)} (h : ZeD st t = some ns) : ZbJ ns := by
 obtain ⟨l, hl, ht, hlen⟩ := Zgd h;refine ⟨by have := UB hl; omega, fun k n hk => ?_⟩;have hkl : k < l.length := by
  have := Zkk (Zhr hk)
  omega
 have := Zdd ht k hkl;rcases this with ⟨_, h2⟩ | ⟨_, m, h2, h3, _⟩
 ·rw [hk] at h2; cases h2
 ·rw [hk] at h2
  obtain rfl := Option.some.inj h2;exact (ZdN h3).1
open Classical in
theorem Zmh (a b : ByteArray) : (a ++ b).data.toList = a.data.toList ++ b.data.toList := by simp
theorem Zkl (s : ByteArray) : Qz [] s = ⟨#[]⟩ := rfl
theorem ZaZ (nms : List ByteArray) (s : ByteArray) : (Qz nms s).data.toList = Go.Lib.join (nms.map (·.data.toList)) s.data.toList := by unfold Qz; simp
theorem Zkm (x s : ByteArray) : Qz [x] s = x := by
 apply Yo
 rw [ZaZ];exact Go.Lib.join_one _ _
theorem Zix (x : ByteArray) (r : List ByteArray) (y s : ByteArray) : Qz ((x :: r) ++ [y]) s = (Qz (x :: r) s ++ s) ++ y := by
 apply Yo
 rw [Zmh, Zmh, ZaZ, ZaZ, List.map_append, map_cons, List.cons_append, Go.Lib.join_cons, Go.Lib.join_cons];unfold Go.Lib.joinTail;rw [List.map_append, List.flatten_append];simp [List.append_assoc]
theorem Znw {st : Za} {ns : List (Option Zc)} {k : Nat} {e : Zb} (he : e ∈ entK st ns k) : ((e.aG.toNat : Nat) : Int) = e.aG ∧ e.aD.size ≠ 0 ∧ e.aD.size ≤ 4 := by
 have h := Y3 (Zgg (st := st) (ns := ns) k) he;have h2 := Zcf h.1
 omega
end Go.Proofs.YthnbgnjpbmnelaaGreatDoor
