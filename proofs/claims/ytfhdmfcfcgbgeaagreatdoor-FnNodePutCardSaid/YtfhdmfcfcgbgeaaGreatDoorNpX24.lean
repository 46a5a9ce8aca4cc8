/- A part of the proof in YtfhdmfcfcgbgeaaGreatDoorNpX34. -/
import Derived.Shelf.Strings.Prefix
import Derived.Shelf.Strings.Repeat
import Derived.Test.YtfhdmfcfcgbgeaaGreatDoorNpX23
namespace Go.Proofs.YtfhdmfcfcgbgeaaGreatDoor
set_option maxHeartbeats 2000000
open Go.Proofs.Tryz
open _root_.ByteArray (size_extract)
open List (append_nil flatMap_cons flatMap_nil getD_eq_getElem?_getD length length_append length_cons length_map length_nil length_set length_take map_cons mem_append mem_cons mem_cons_of_mem mem_cons_self mem_singleton nil_append replicate)
set_option linter.unusedVariables false
set_option linter.unusedSimpArgs false
set_option maxHeartbeats 1000000
set_option maxRecDepth 100000
open Go.RowKit
def Zo (x : List PtrD) : List PtrD := x ++ replicate (16 - x.length) PtrD.zero
theorem UP {x : List PtrD} (h : x.length ≤ 16) : (Zo x).length = 16 := by unfold Zo; rw [length_append, List.length_replicate]; omega
theorem ZbS {x : List PtrD} (h : ∀ p ∈ x, p.ok = true) : ∀ p ∈ Zo x, p.ok = true := fun p hp => by
 rcases mem_append.1 hp with hp | hp
 ·exact h p hp
 ·rw [List.eq_of_mem_replicate hp]; rfl
theorem ZeL (a0 : Option Addr) (c0 : Nat) (a1 : Option Addr) (c1 : Nat) (a2 : Option Addr) (c2 : Nat) (a4 : Option Addr) (c4 : Nat) (a6 : Option Addr) (c6 : Nat) (st : Za) (t : Ze) {x : List PtrD} (hx : downL (kidsS st) (depthN t.ai) [t.af] = some x) (hdep : t.aw = ((depthN t.ai : Nat) : Int)) (hxl : x.length ≤ 16) (w0 : World) (hR : Rd Zu 1 w0 a0 st.ac.length st.ac) (hrow : Xv st) : Calls prog 132 #[.agg #[.slice a0 st.ac.length c0, .slice a1 st.aa.ag.length c1, .slice a2 st.aa.au.length c2, .int .i64 st.av, .slice a4 st.ak.length c4, .int .i64 st.ax, .slice a6 st.ar.length c6, .bool st.aA], .agg #[.int .i64 t.af.aC, .int .i64 t.af.al, .int .i64 t.af.am, .int .i64 t.af.aB, .int .i64 t.af.aq, .int .i64 t.aw, .int .i64 t.ai]] w0 fun e w' => ∃ ao cp, e = .returned (.tuple #[.slice ao x.length cp, .bool true]) ∧ St w0 [Zg PtrD.cells 5 24 (.slice ao x.length cp) x] w' := by
 refine (ZbQ a0 c0 a1 c1 a2 c2 a4 c4 a6 c6 st t hdep w0 hR hrow).mono ?_;rintro e w' (⟨l, h, ao, cp, he, hs⟩ | ⟨h, _⟩)
 ·rw [hx] at h
  obtain rfl := Option.some.inj h;exact ⟨ao, cp, he, hs⟩
 ·rw [hx] at h; cases h
theorem Vi (a0 : Option Addr) (c0 : Nat) (a1 : Option Addr) (c1 : Nat) (a2 : Option Addr) (c2 : Nat) (a4 : Option Addr) (c4 : Nat) (a6 : Option Addr) (c6 : Nat) (st : Za) (t : Ze) {x : List PtrD} (hx : downL (kidsS st) (depthN t.ai) [t.af] = some x) (hdep : t.aw = ((depthN t.ai : Nat) : Int)) (hxl : x.length ≤ 16) (w0 : World) (hR : Rd Zu 1 w0 a0 st.ac.length st.ac) (hrow : Xv st) : Calls prog 95 #[sV a0 c0 a1 c1 a2 c2 a4 c4 a6 c6 st, tV t] w0 fun e w' => ∃ ao cp, e = .returned (.slice ao (Zo x).length cp) ∧ St w0 [Zg PtrD.cells 5 24 (.slice ao (Zo x).length cp) (Zo x)] w' := by
 have HR := Bx.mk hR; clear hR;have E := Bx.mk (St.start w0);refine ent func95 ntmps95 ?_;refine xsr ?_;refine ybx E ?_;clear E;intro w1 b1 E;refine ybx E ?_;clear E;intro w2 b2 E;refine xr 1 rfl<|xne<|xsr<|Xw 1 8 E rfl rfl<|Xw 0 7 E rfl rfl ?_;refine yc (ZeL a0 c0 a1 c1 a2 c2 a4 c4 a6 c6 st t hx hdep hxl _ (HR.out.below E.o.bel) hrow) func132 ?_;rintro _ w3 ⟨ao, cp, rfl, hs⟩;refine ⟨_, rfl, ?_⟩; replace E := E.ad hs;clear hs;refine xr 5 rfl<|xne<|xsr ?_;refine yem 24 5 E ?_;clear E;intro w4 b3 E;refine xr 1 rfl ?_;replace E := Bx.mk (E.o.nilRow PtrD.cells 5 24 (some ⟨b3, 0, none⟩));intro a J;refine XE rfl J rfl rfl rfl (J.ev rfl) (J.ev rfl) Xu PtrD.cells_len E.o 0 (xs := []) rfl (ys := x) (St.rdOf E.o PtrD.cells_len 1 rfl) (Zz _) (by unfold maxLen; (try simp only [length_append, length_cons, length_nil, nil_append, length_map, List.length_replicate]); omega) (by (try simp only [length_append, length_cons, length_nil, nil_append, length_map, List.length_replicate]); omega) ?_; clear J E a; intro ao5 cp6 w5 a J E; replace E := Bx.mk E;revert a;refine xr 1 rfl<|xy rfl (vn 24 5 rfl)<|xy rfl (fun a J=>ZO (r := ((16 - x.length : Nat) : Int)) rfl (J.ev rfl) (J.ev rfl) ((Yh (by omega)).trans (by omega))) ?_;refine yc (Un (16 - x.length) (by omega) _) func133 ?_;rintro _ w6 ⟨ao7, cp7, rfl, hs⟩;refine ⟨_, rfl, ?_⟩;replace E := E.ad hs;clear hs;intro a J;refine XE rfl J rfl rfl rfl (J.ev rfl) (J.ev rfl) Xu PtrD.cells_len E.o 1 (xs := ([]) ++ x) rfl (ys := replicate (16 - x.length) PtrD.zero) (St.rdN E.o PtrD.cells_len 0 rfl) (Zz _) (by unfold maxLen; (try simp only [length_append, length_cons, length_nil, nil_append, length_map, List.length_replicate]); omega) (by (try simp only [length_append, length_cons, length_nil, nil_append, length_map, List.length_replicate]); omega) ?_; clear J E a; intro ao8 cp9 w7 a J E; replace E := Bx.mk E;revert a;refine xr 1 rfl<|xne<|xre<|xb1 results95 rfl ?_;have hwl : ([] ++ x).length + (replicate (16 - x.length) PtrD.zero).length = (Zo x).length := (length_append ..).symm; rw [hwl] at E ⊢;exact ⟨_, _, rfl, (E.o.erS [4,3,2,0])⟩
theorem ZdY {st : Za} {l : List PtrD} {k : Nat} (h : k < l.length) : (l.take k).map (Zn st) ++ [Zn st (l.getD k PtrD.zero)] = (l.take (k + 1)).map (Zn st) := by
 rw [List.take_succ_eq_append_getElem h, List.map_append, getD_eq_getElem?_getD, List.getElem?_eq_getElem h]; rfl
def Zgf (st : Za) (t : Ze) (x : List PtrD) : List ByteArray := ((Zo x).take t.ai.toNat).map (Zn st)
theorem Zhn (a0 : Option Addr) (c0 : Nat) (a1 : Option Addr) (c1 : Nat) (a2 : Option Addr) (c2 : Nat) (a4 : Option Addr) (c4 : Nat) (a6 : Option Addr) (c6 : Nat) (st : Za) (t : Ze) {x : List PtrD} (hx : downL (kidsS st) (depthN t.ai) [t.af] = some x) (hdep : t.aw = ((depthN t.ai : Nat) : Int)) (hxl : x.length ≤ 16) (hxok : ∀ p ∈ x, p.ok = true) (hm : 0 ≤ t.ai ∧ t.ai ≤ 16) (w0 : World) (hR : Rd Zu 1 w0 a0 st.ac.length st.ac) (hrow : Xv st) : Calls prog 70 #[sV a0 c0 a1 c1 a2 c2 a4 c4 a6 c6 st, tV t] w0 fun e w' => ∃ ao cp, e = .returned (.slice ao (Zgf st t x).length cp) ∧ St w0 [Zg Zu 1 9 (.slice ao (Zgf st t x).length cp) (Zgf st t x)] w' := by
 have HR := Bx.mk hR; clear hR;have E := Bx.mk (St.start w0);refine ent func70 ntmps70 ?_;refine xsr ?_;refine ybx E ?_;clear E;intro w1 b1 E;refine ybx E ?_;clear E;intro w2 b2 E;refine xr 1 rfl<|xne<|xsr ?_;refine yem 9 1 E ?_;clear E;intro w3 b3 E;refine xr 1 rfl<|xne<|xsr<|Xw 1 8 E rfl rfl<|Xw 0 7 E rfl rfl ?_;refine yc (Vi a0 c0 a1 c1 a2 c2 a4 c4 a6 c6 st t hx hdep hxl _ (HR.out.below E.o.bel) hrow) func95 ?_;rintro _ w4 ⟨ao4, cp4, rfl, hs⟩;refine ⟨_, rfl, ?_⟩;replace E := E.ad hs;clear hs;refine xr 1 rfl<|xne<|xsq<|xsq ?_;have hwl := UP hxl; have hwok := ZbS hxok;refine xrl<|xr 1 rfl<|xne<|xbl ?_;replace E := Bx.mk (E.o.nilRow Zu 1 9 (some ⟨b3, 0, none⟩));intro a J;refine Zt (ι := Nat) (fun k a w => ∃ (ao : Option Addr) (cp : Nat) (xs : List ByteArray), (k ≤ t.ai.toNat ∧ xs = ((Zo x).take k).map (Zn st)) ∧ Fr 34 a [(2, .pointer (some ⟨b1, 0, none⟩)), (3, .pointer (some ⟨b2, 0, none⟩)), (6, .slice ao4 ((Zo x).length) cp4), (5, .slice ao xs.length cp), (7, .int .i64 (k : Int))] ∧ St w0 ([Zg Zu 1 9 (.slice ao xs.length cp) xs, Zg PtrD.cells 5 24 (.slice ao4 ((Zo x).length) cp4) (Zo x), boxA b2 7 26 (tV t), boxA b1 8 44 (sV a0 c0 a1 c1 a2 c2 a4 c4 a6 c6 st)]) w) (fun k => t.ai.toNat - k) 0 ⟨_, _, [], ⟨Nat.zero_le _, rfl⟩, J.ls _, E.o⟩ ?_;clear J E; clear a;rintro k a w5 ⟨ao, cp, xs, ⟨hk, hq⟩, J, E⟩;replace E := Bx.mk E;have hxl : xs.length = k := by rw [hq]; simp; omega
 revert a;refine xsq<|xsr<|xr 1 rfl<|Xf 6 rfl<|Xl 2 E rfl rfl<|xr 1 rfl<|xne<|xcd 17 rfl (fun _ dcc1=>?_) fun _ dcc1=>?_
 refine xct rfl<|xsk<|xet<|xsq<|xbl<|xsq ?_;obtain ⟨g5, rfl, _, _, _, _⟩ := E.o.rowOpen 1 rfl (by omega);intro a J;refine Yn (by kernel_rfl) (by kernel_rfl) E.o ?_;revert a;refine Qw 3 8 rfl rfl<|xqr 2 rfl<|xq rfl (fun E=>vx 24 k 5 rfl)<|xq rfl (fun E a J=>ylr (cs := pL ((Zo x).getD k PtrD.zero)) rfl (J.ev rfl) (E.elem PtrD.cells_len 1 rfl (Zi (xs := Zo x) (j := k) (d := PtrD.zero) (by omega)))) ?_;refine yq (fun _ E => (J2 a0 c0 a1 c1 a2 c2 a4 c4 a6 c6 st ((Zo x).getD k PtrD.zero) _ (HR.out.below E.bel) hrow (hwok _ (YK (by omega))))) func96 ?_;refine xqr 5 rfl ?_;intro a J;refine wpQuiet_nil ?_; intro w6 E; replace E := Bx.mk E;revert a;refine xet<|xrl<|xr 2 rfl ?_;refine ybs Zu 9 1 [Zn st ((Zo x).getD k PtrD.zero)] E ?_;clear E;intro b6 w7 E;refine yap Y1 Zf E 1 (St.rdN E.o Zf 0 rfl) (Zv _) ?_;clear E;intro ao7 cp8 w8 E;refine xr 1 rfl<|xni<|xeb<|xet<|xrl<|xr 1 rfl<|xy rfl (vad rfl)<|xr 1 rfl<|xne ?_;have hz : xs.length + ([Zn st ((Zo x).getD k PtrD.zero)]).length = (xs ++ ([Zn st ((Zo x).getD k PtrD.zero)])).length := (length_append ..).symm;intro a J;rw [hz] at E J;have hnext : xs ++ ([Zn st ((Zo x).getD k PtrD.zero)]) = ((Zo x).take (k + 1)).map (Zn st) := by rw [hq]; exact ZdY (by omega)
 replace E:=E.pks [4,4,4,4];exact ⟨k + 1, ⟨_, _, xs ++ ([Zn st ((Zo x).getD k PtrD.zero)]), ⟨by omega, hnext⟩, J.less _ ⟨rfl, rfl, rfl, rfl, rfl, trivial⟩, (E.o.erase 4)⟩, (by omega)⟩;refine xcf rfl<|xex<|xtx<|xtx<|xbh<|xet<|xsr<|xr 2 rfl<|xne<|xre<|xb1 results70 rfl ?_;obtain rfl : k = t.ai.toNat := by omega
 subst hq;exact ⟨_, _, rfl, (E.o.erS [3,2,1])⟩
theorem Zho (size : Int) (k : Nat) (w0 : World) (hk : k ≤ 16) (hs : 12 * (k : Int) ≤ size ∧ size ≤ 1000000) : Calls prog 189 #[.int .i64 size, .int .i64 (k : Int)] w0 fun e w' => e = .returned (.int .i64 (longN size k : Int)) ∧ Below w0.heap.size w0 w' := by
 have E := Bx.mk (St.start w0);refine ent func189 ntmps189 ?_;refine xsr<|xr 1 rfl<|xne<|xsr<|xr 2 rfl<|xy rfl (fun a J=>Y6 rfl (J.ev rfl) (J.ev rfl) (Yh (by omega)))<|xy rfl (fun a J=>ZO rfl (J.ev rfl) (J.ev rfl) (Yh (by omega)))<|xy rfl (fun a J=>Zjg rfl (J.ev rfl) (J.ev rfl))<|xr 1 rfl<|xne<|xre<|xb1 results189 rfl ?_;exact ⟨by show Ending.returned (.int .i64 _) = Ending.returned (.int .i64 _); unfold longN; congr 2; omega, E.o.bel⟩
theorem Ziz (s : ByteArray) (w0 : World) (hs : s.size ≤ 1000000) : Calls prog 190 #[.string s] w0 fun e w' => e = .returned (.string (Zdh s)) ∧ Below w0.heap.size w0 w' := by
 have E := Bx.mk (St.start w0);refine ent func190 ntmps190 ?_;refine xsr<|xr 1 rfl<|xne<|xsq<|xbl ?_;intro a J;refine Zt (ι := ByteArray) (fun r a w => (Zdh r = Zdh s ∧ r.size ≤ 1000000) ∧ Fr 20 a [(0, .string r)] ∧ St w0 ([]) w) (fun r => r.size) s ⟨⟨rfl, hs⟩, J.ls _, E.o⟩ ?_;clear J E; clear a;rintro r a w1 ⟨⟨hcz, hrs⟩, J, E⟩;replace E := Bx.mk E;revert a;refine xsq<|xsr<|xr 1 rfl<|xy rfl (fun a J=>ZL rfl (J.ev rfl) (by kernel_rfl))<|xr 2 rfl<|xcd 6 rfl (fun _ dcc1=>?_) fun _ dcc1=>?_
 refine xr 2 rfl<|xy rfl (fun a J=>ZL rfl (J.ev rfl) (by kernel_rfl))<|xy rfl (fun a J=>ZO (r := ((r.size - 1 : Nat) : Int)) rfl (J.ev rfl) (J.ev rfl) ((Yh (by omega)).trans (by omega)))<|xy rfl (fun a J=>YN (i := (r.size - 1)) rfl (J.ev rfl) (J.ev rfl) (by kernel_rfl) (by omega) (by omega))<|xr 2 rfl<|xne<|xce 13 rfl (fun cc2 dcc2=>?_) fun cc2 dcc2=>?_;refine xct rfl<|xsk<|xet<|xbl<|xrl<|xr 2 rfl<|xy rfl (fun a J=>ZL rfl (J.ev rfl) (by kernel_rfl))<|xy rfl (fun a J=>ZO (r := ((r.size - 1 : Nat) : Int)) rfl (J.ev rfl) (J.ev rfl) ((Yh (by omega)).trans (by omega)))<|xy rfl (fun a J=>JS (k := (r.size - 1)) rfl (J.ev rfl) (J.ev rfl) (by kernel_rfl) (by omega) (by omega))<|xr 1 rfl<|xni<|xeb<|xet ?_;have hlz : V2 r = true := by rw [Zfl (by omega)]; exact cc2
 have hes : (r.extract 0 (r.size - 1)).size = r.size - 1 := by rw [size_extract]; omega
 intro a J;exact ⟨(r.extract 0 (r.size - 1)), ⟨⟨(Zkm hlz).trans hcz, by omega⟩, J.less _ ⟨rfl, trivial⟩, E.o⟩, (by omega)⟩;refine xcf rfl<|xex<|xtx<|xtx<|xbh<|xet<|xsr<|xr 2 rfl<|xne<|xre<|xb1 results190 rfl ?_;have hlz : V2 r = false := by rw [Zfl (by omega)]; exact cc2
 exact ⟨by rw [← hcz, Zfm hlz], E.o.bel⟩;refine xr 7 rfl<|xne<|xcf rfl<|xex<|xtx<|xtx<|xbh<|xet<|xsr<|xr 2 rfl<|xne<|xre<|xb1 results190 rfl ?_;have hlz : V2 r = false := Zkl (by omega);exact ⟨by rw [← hcz, Zfm hlz], E.o.bel⟩
structure TreeX (st : Za) (t : Ze) (x l : List PtrD) : Prop where
  dn : downL (kidsS st) (depthN t.ai) [t.af] = some x
  dep : t.aw = ((depthN t.ai : Nat) : Int)
  x16 : x.length ≤ 16
  xok : ∀ p ∈ x, p.ok = true
  lv : leavesF st t = some l
  len : l.length = t.ai.toNat
  many : 0 ≤ t.ai ∧ t.ai ≤ 16
  tk : (Zo x).take t.ai.toNat = l
theorem treeX {st : Za} {t : Ze} {l : List PtrD} (h0 : 0 ≤ st.av) (h : leavesF st t = some l) : ∃ x, TreeX st t x l := by
 obtain ⟨x, ht, hd, hlb, hlx, hxl, hl⟩ := Za0 h;unfold topB at ht;simp only [Bool.and_eq_true, beq_iff_eq, decide_eq_true_eq] at ht;have hin := Zs ht.1;have hy := Vh (st := st) (n := depthN t.ai) (l := [t.af]) (fun p hp => by rw [mem_singleton.1 hp]; exact ht.2.2) h0;have hp4 := Zl5 (YR t.ai);have hx16 : x.length ≤ 16 := by rw [hxl]; exact hp4
 refine ⟨x, hy.1.trans hd, ht.2.1, hx16, fun p hp => (hy.2 x hd p hp).1, h, hl, hin, ?_⟩;have hle : t.ai.toNat ≤ x.length := by
  have := congrArg length hlx;rw [hl, length_take] at this
  omega
 rw [hlx];unfold Zo;rw [List.take_append_of_le_length hle]
theorem Zas (a0 : Option Addr) (c0 : Nat) (a1 : Option Addr) (c1 : Nat) (a2 : Option Addr) (c2 : Nat) (a4 : Option Addr) (c4 : Nat) (a6 : Option Addr) (c6 : Nat) (st : Za) (t : Ze) {x l : List PtrD} (X : TreeX st t x l) (w0 : World) (hR : Rd Zu 1 w0 a0 st.ac.length st.ac) (hrow : Xv st) : Calls prog 70 #[.agg #[.slice a0 st.ac.length c0, .slice a1 st.aa.ag.length c1, .slice a2 st.aa.au.length c2, .int .i64 st.av, .slice a4 st.ak.length c4, .int .i64 st.ax, .slice a6 st.ar.length c6, .bool st.aA], .agg #[.int .i64 t.af.aC, .int .i64 t.af.al, .int .i64 t.af.am, .int .i64 t.af.aB, .int .i64 t.af.aq, .int .i64 t.aw, .int .i64 t.ai]] w0 fun e w' => ∃ ao cp, e = .returned (.slice ao (l.map (Zn st)).length cp) ∧ St w0 [Zg Zu 1 9 (.slice ao (l.map (Zn st)).length cp) (l.map (Zn st))] w' := by
 have h := Zhn a0 c0 a1 c1 a2 c2 a4 c4 a6 c6 st t X.dn X.dep X.x16 X.xok X.many w0 hR hrow;unfold Zgf at h;rw [X.tk] at h;exact h
theorem Zgg {st : Za} {l : List PtrD} {k : Nat} (h : k < l.length) : (l.map (Zn st))[k]? = some (Zn st (l.getD k PtrD.zero)) := by
 rw [List.getElem?_map, getD_eq_getElem?_getD, List.getElem?_eq_getElem h]; rfl
theorem Zl9 {st : Za} {t : Ze} (h0 : 0 ≤ st.av) (h : okS st t = true) : ∃ l, leavesF st t = some l := by
 rw [ZlY h0] at h;exact Option.isSome_iff_exists.1 h
theorem Zma {st : Za} {t : Ze} (h0 : 0 ≤ st.av) (h : okS st t = false) : leavesF st t = none := by
 rw [ZlY h0] at h
 cases hl : leavesF st t with
 | none => rfl
 | some l => exfalso; have h2 : (leavesF st t).isSome = false := h; rw [hl] at h2; cases h2
theorem Za9 {n : Zb} (h : n.ok = true) (hk : (n.aj == 1) = true) : 0 ≤ n.am ∧ n.am ≤ 192 ∧ n.ah.ai = (n.am + 11) / 12 := by
 have a := Zb.ok_is h;have s := a.small;have k1 : n.aj = 1 := beq_iff_eq.1 hk;have hz := s.size; have hi := s.is; have hm := a.tmany;rw [k1, Ziw] at hz hi;rw [k1] at hm
 omega
def ZbT (st : Za) (text : ByteArray) (level : Int) : Int := if st.aA && (level == 0) then ZaC st text else -1
def Qt (st : Za) (text : ByteArray) (level : Int) : Int := if ZbT st text level < 0 then Ui st.aa else ZbT st text level
def Za.mayW (st : Za) (text : ByteArray) (level : Int) : Bool := st.ok && (inB text.size 1 128 && (inB level 0 2 && decide (writeAt st text level < 64)))
def Za.wrote (st : Za) (text : ByteArray) (level : Int) : Za := if st.mayW text level then st.putAt (writeAt st text level) (st.ac.set (writeAt st text level) text) else Za.zero
def Za.wptr (st : Za) (text : ByteArray) (level : Int) : PtrD := if st.mayW text level then YW (writeAt st text level : Nat) st.av level text else PtrD.zero
theorem Qd {a b : ByteArray} (h : (a.toList == b.toList) = true) : a = b := by
 have h := eq_of_beq h;rw [ByteArray.toList_eq, ByteArray.toList_eq] at h;exact ByteArray.ext (Array.toList_inj.1 h)
section
variable {st : Za} {text : ByteArray} {level : Int}
theorem ZdZ (h : Jm st text level < 64) : ZaD st text (Jm st text level) = true := by
 unfold Jm at h ⊢
 split
 ·rename_i hs
  rw [if_pos hs] at h;exact Zdy _ 64 0 (by omega)
 ·rename_i hs
  rw [if_neg hs] at h
  omega
theorem Zmb (hok : st.ok = true) (hsz : inB text.size 1 128 = true) (hlv : inB level 0 2 = true) {i : Nat} (hi : i < 64) (hw : writeAt st text level = i) :
  st.mayW text level = true ∧ st.wrote text level = st.putAt i (st.ac.set i text) ∧ st.wptr text level = YW (i : Int) st.av level text ∧ XI (i : Int) st.av level text = true ∧ (Jm st text level < 64 → st.ac.set i text = st.ac) := by
 have hO := Za.ok_spec hok;have hP := Zq.ok_spec hO.space;have hm : st.mayW text level = true := by unfold Za.mayW; rw [hok, hsz, hlv, hw]; simp [hi]
 have h8 : 8 ≤ i := by
  by_cases hl : Jm st text level < 64
  ·have := ZdZ hl
   have e : Jm st text level = i := by unfold writeAt at hw; rw [if_pos hl] at hw; exact hw
   rw [e] at this;unfold ZaD at this;simp only [Bool.and_eq_true, decide_eq_true_eq] at this;rcases Nat.lt_or_ge i 8 with h | h
   ·have := (hP.each i hi).2.2.2.2 h; omega
   ·exact h
  ·unfold writeAt at hw
   rw [if_neg hl] at hw;have := Qg (Zby st) 56 8
   omega
 refine ⟨hm, by unfold Za.wrote; rw [hm, hw]; rfl, by unfold Za.wptr; rw [hm, hw]; rfl, ?_, fun hl => ?_⟩
 ·have := Zlw text
  have h1 := hO.txg;have h2 := Zs hsz;have h3 := Zs hlv;unfold XI PtrD.ok YW;rw [hsz];dsimp only;rw [XT (by omega) (by omega), XT (by omega) (by omega), XT (by omega) (by omega), XT (by omega) (by omega)]
  simp
 ·have := ZdZ hl
  have e : Jm st text level = i := by unfold writeAt at hw; rw [if_pos hl] at hw; exact hw
  rw [e] at this;unfold ZaD at this;simp only [Bool.and_eq_true] at this;have h1 := Qd this.1.1.2;have hl2 : i < st.ac.length := by rw [hO.rows]; exact hi
  refine List.ext_getElem (by simp) fun j h2 h3 => ?_;rw [List.getElem_set]
  split
  ·rename_i e2
   subst e2;rw [← h1]; simp [List.getD, hl2]
  ·rfl
theorem Zoz (hok : st.ok = true) (hsz : inB text.size 1 128 = true) : (Qt st text level < 0 → writeAt st text level = 64) ∧ ∀ i : Nat, Qt st text level = i → writeAt st text level = i := by
 have hO := Za.ok_spec hok;have hP := Zq.ok_spec hO.space;have hs := Zs hsz;have hlike : ZT (ZaD st text) 64 0 = ZT (Uh st text) 56 8 := by
  have h0 : ZT (ZaD st text) (8 + 56) 0 = ZT (ZaD st text) 56 (0 + 8) := ZgY 8 56 0 fun i _ h2 => by
   have := (hP.each i (by omega)).2.2.2.2 (by omega);unfold ZaD;rw [this]; rfl
  refine h0.trans (Zbx 56 8 fun i h1 h2 => ?_);have hi : i < 64 := by omega
  have he := hP.each i hi;have hr := Zae hO.each hi;unfold ZaD Uh
  cases h3 : ((st.ac.getD i ByteArray.empty).toList == text.toList) with
  | false => cases decide (0 < st.aa.ag.getD i 0) <;> rfl
  | true =>
   have h4 := Qd h3;unfold QG at hr;simp only [Bool.and_eq_true, beq_iff_eq, decide_eq_true_eq, Bool.not_eq_true', bne_iff_ne] at hr;have h5 : st.aa.ag.getD i 0 ≠ 0 := fun h0 => by
    have hz : (st.ac.getD i ByteArray.empty).size ≠ 0 := by rw [h4]; omega
    simp_all
   have h6 : decide (0 < st.aa.ag.getD i 0) = true := decide_eq_true (by omega);rw [h6]; rfl
 have hfree : ZT (Zby st) 56 8 = ZT (VJ st.aa) 56 8 := Zbx 56 8 fun i h1 h2 => by
  have he := hP.each i (by omega);unfold Zby VJ
  by_cases h0 : st.aa.ag.getD i 0 = 0
  ·rw [h0]; rfl
  ·have h1 : decide (0 < st.aa.ag.getD i 0) = true := decide_eq_true (by omega)
   rw [h1, beq_eq_false_iff_ne.2 h0]; rfl
 have hb1 := Qg (Uh st text) 56 8;have hb2 := Qg (VJ st.aa) 56 8;unfold Qt writeAt ZbT Jm ZaC Ui;rw [hlike, hfree]
 cases hsm : (st.aA && (level == 0)) with
 | true =>
  simp only [if_true];unfold Zf2
  constructor
  ·split <;> split <;> (try split) <;> omega
  ·intro i; split <;> split <;> (try split) <;> omega
 | false =>
  simp only [Bool.false_eq_true, if_false];unfold Zf2
  constructor
  ·simp; split <;> omega
  ·intro i; simp; split <;> omega
end
theorem Zh8.ok {s : Zq} (h : Zh8 s) : s.ok = true := by
 unfold Zq.ok;simp only [Bool.and_eq_true, beq_iff_eq];refine ⟨⟨h.refs, h.last⟩, ?_⟩;unfold Jk;rw [List.all_eq_true];intro i hi;have hi := List.mem_range.1 hi;have e := h.each i hi;rw [ZeT hi];unfold ZfV;simp only [Bool.and_eq_true, Bool.or_eq_true, decide_eq_true_eq, bne_iff_ne, beq_iff_eq, Bool.not_eq_true', decide_eq_false_iff_not];refine ⟨XT (by omega) (by omega), XT (by omega) (by omega), ?_, ?_⟩
 ·by_cases h0 : s.ag.getD i 0 = 0
  ·exact .inr (e.2.2.2.1 h0)
  ·exact .inl h0
 ·by_cases h8 : i < 8
  ·exact .inl (by rw [e.2.2.2.2 h8]; exact Int.le_refl 0)
  ·exact .inr (by omega)
theorem ZfW.ok {st : Za} (h : ZfW st) : st.ok = true := by
 unfold Za.ok;simp only [Bool.and_eq_true, beq_iff_eq];exact ⟨h.rows, h.space, XT h.txg.1 h.txg.2, XT h.keep.1 h.keep.2, h.each, h.gone, h.dead, h.owed⟩
theorem Q4 {st : Za} : QH st 64 = true ↔ ∀ i, i < 64 → (st.ac.getD i ByteArray.empty).size ≤ 128 ∧ ((st.ac.getD i ByteArray.empty).size = 0 ↔ st.aa.ag.getD i 0 = 0) ∧ st.aa.au.getD i 0 ≤ st.av := by
 constructor
 ·intro h i hi
  have := Zae h hi;unfold QG at this;simp only [Bool.and_eq_true, decide_eq_true_eq, beq_iff_eq] at this;refine ⟨this.1, ?_, this.2.2⟩;have h2 := this.2.1
  constructor
  ·intro e; rw [beq_iff_eq.2 e] at h2; exact beq_iff_eq.1 h2.symm
  ·intro e; rw [beq_iff_eq.2 e] at h2; exact beq_iff_eq.1 h2
 ·intro h
  unfold QH;rw [List.all_eq_true];intro i hi;obtain ⟨a, b, c⟩ := h i (List.mem_range.1 hi);unfold QG;simp only [Bool.and_eq_true, decide_eq_true_eq, beq_iff_eq];refine ⟨a, ?_, c⟩;rw [Bool.eq_iff_iff];simp only [beq_iff_eq]; exact b
theorem Y0 {refs : List Int} {ps : List PtrD} : VD refs ps = true ↔ ∀ i, i < 64 → (cnt ps i : Int) ≤ refs.getD i 0 := by
 unfold VD;rw [List.all_eq_true];exact ⟨fun h i hi => by have := h i (List.mem_range.2 hi); simpa using this, fun h i hi => by have := h i (List.mem_range.1 hi); simpa using this⟩
theorem Y3 (p : PtrD) (ps : List PtrD) (i : Nat) : cnt (p :: ps) i = (if p.aC = (i : Int) then 1 else 0) + cnt ps i := by
 rw [show p :: ps = [p] ++ ps from rfl, Zj]
 congr 1
 unfold cnt
 by_cases h : p.aC = (i : Int) <;> simp [h]
theorem Jv (i : Nat) : cnt [] i = 0 := rfl
theorem Zjw {ps : List PtrD} {q : PtrD} {i : Nat} (hq : q ∈ ps) (h : q.aC = (i : Int)) : 1 ≤ cnt ps i := by
 unfold cnt;exact List.length_pos_of_mem (List.mem_filter.2 ⟨hq, by simp [h]⟩)
theorem X1 {α : Type} {xs : List α} {i j : Nat} {x d : α} (hi : i < xs.length) : (xs.set i x).getD j d = if i = j then x else xs.getD j d := by
 by_cases h : i = j
 ·subst h; rw [if_pos rfl, getD_eq_getElem?_getD, List.getElem?_set_self hi]; rfl
 ·rw [if_neg h, getD_eq_getElem?_getD, getD_eq_getElem?_getD, List.getElem?_set_ne h]
structure Inv (st : Za) (X : List PtrD) : Prop where
  ok : st.ok = true
  owes : ∀ i : Nat, 8 ≤ i → i < 64 → ((cnt X i + cnt (st.ak ++ st.ar) i : Nat) : Int) ≤ st.aa.ag.getD i 0
structure Z4 (st st' : Za) (X : List PtrD) : Prop where
  row : ∀ q ∈ X, q.ok = true → q.hole = false → Yt st' q = Yt st q
  txg : st'.av = st.av
  keep : st'.ax = st.ax
  same : st'.aA = st.aA
theorem Z4.refl (st : Za) (X : List PtrD) : Z4 st st X := ⟨fun _ _ _ _ => rfl, rfl, rfl, rfl⟩
theorem Z4.trans {a b c : Za} {X : List PtrD} (h : Z4 a b X) (k : Z4 b c X) : Z4 a c X :=
 ⟨fun q hq ho hh => (k.row q hq ho hh).trans (h.row q hq ho hh), k.txg.trans h.txg, k.keep.trans h.keep, k.same.trans h.same⟩
theorem Z4.mono {a b : Za} {X Y : List PtrD} (h : Z4 a b X) (hs : ∀ q ∈ Y, q ∈ X) : Z4 a b Y := ⟨fun q hq => h.row q (hs q hq), h.txg, h.keep, h.same⟩
theorem Inv.mono {st : Za} {X Y : List PtrD} (h : Inv st X) (hc : ∀ i : Nat, 8 ≤ i → i < 64 → cnt Y i ≤ cnt X i) : Inv st Y :=
 ⟨h.ok, fun i h8 hi => by have := h.owes i h8 hi; have := hc i h8 hi; omega⟩
theorem ZiA {p : PtrD} (h : p.ok = true) (hh : p.hole = false) : 8 ≤ p.aC ∧ p.aC ≤ 63 := by
 unfold PtrD.ok at h;rw [hh, Bool.false_or] at h;simp only [Bool.and_eq_true] at h;exact Zs h.1.1.1.1
theorem Zba {q : PtrD} (ho : q.ok = true) (hh : q.hole = false) : ∃ i : Nat, 8 ≤ i ∧ i < 64 ∧ q.aC = (i : Int) := by
 obtain ⟨h1, h2⟩ := ZiA ho hh;exact ⟨q.aC.toNat, by omega, by omega, by omega⟩
theorem Inv.live {st : Za} {X : List PtrD} (h : Inv st X) {q : PtrD} (hq : q ∈ X) {i : Nat} (h8 : 8 ≤ i) (hi : i < 64) (e : q.aC = (i : Int)) : 1 ≤ st.aa.ag.getD i 0 := by
 have := h.owes i h8 hi;have := Zjw hq e
 omega
theorem Up {st : Za} {q : PtrD} {i : Nat} (e : q.aC = (i : Int)) : Yt st q = st.ac.getD i ByteArray.empty := by unfold Yt; rw [e, Int.toNat_natCast]
section
variable {st : Za} {X : List PtrD} {text : ByteArray} {level : Int} {i : Nat}
theorem Zfn (hok : st.ok = true) (hi : i < 64) (hw : writeAt st text level = i) : 8 ≤ i ∧ (st.aa.ag.getD i 0 = 0 ∧ st.aa.au.getD i 0 = 0 ∨ 0 < st.aa.ag.getD i 0 ∧ st.ac.getD i ByteArray.empty = text ∧ st.aa.ag.getD i 0 < st.av) := by
 have hO := Za.ok_spec hok;have hP := Zq.ok_spec hO.space
 by_cases hl : Jm st text level < 64
 ·have := ZdZ hl
  have e : Jm st text level = i := by unfold writeAt at hw; rw [if_pos hl] at hw; exact hw
  rw [e] at this;unfold ZaD at this;simp only [Bool.and_eq_true, decide_eq_true_eq] at this;refine ⟨?_, .inr ⟨this.1.1.1, Qd this.1.1.2, this.2⟩⟩;rcases Nat.lt_or_ge i 8 with h | h
  ·have := (hP.each i hi).2.2.2.2 h; omega
  ·exact h
 ·unfold writeAt at hw
  rw [if_neg hl] at hw;have hb := Qg (Zby st) 56 8;have hh := Zdy (Zby st) 56 8 (by omega);rw [hw] at hh;unfold Zby at hh;have h0 := (hP.each i hi).1;rw [Bool.not_eq_true'] at hh;have hz : st.aa.ag.getD i 0 = 0 := by have := of_decide_eq_false hh; omega
  exact ⟨by omega, .inl ⟨hz, (hP.each i hi).2.2.2.1 hz⟩⟩
theorem Inv.write (h : Inv st X) (hsz : inB text.size 1 128 = true) (hlv : inB level 0 2 = true) (hi : i < 64) (hw : writeAt st text level = i) :
  Inv (st.putAt i (st.ac.set i text)) (YW (i : Int) st.av level text :: X) ∧ Z4 st (st.putAt i (st.ac.set i text)) X ∧ Yt (st.putAt i (st.ac.set i text)) (YW (i : Int) st.av level text) = text := by
 obtain ⟨h8, hrow⟩ := Zfn h.ok hi hw;have hO := Za.ok_spec h.ok;have hP := Zq.ok_spec hO.space;have hs := Zs hsz;have hl0 : i < st.ac.length := by rw [hO.rows]; exact hi
 have hl1 : i < st.aa.ag.length := by rw [hP.refs]; exact hi
 have hl2 : i < st.aa.au.length := by rw [hP.last]; exact hi
 have hrefs : ∀ j : Nat, (st.putAt i (st.ac.set i text)).aa.ag.getD j 0 = if i = j then st.aa.ag.getD i 0 + 1 else st.aa.ag.getD j 0 := fun j => X1 hl1
 have hlast : ∀ j : Nat, (st.putAt i (st.ac.set i text)).aa.au.getD j 0 = if i = j then st.av else st.aa.au.getD j 0 := fun j => X1 hl2
 have hrows : ∀ j : Nat, (st.putAt i (st.ac.set i text)).ac.getD j ByteArray.empty = if i = j then text else st.ac.getD j ByteArray.empty := fun j => X1 hl0
 have hEi := hP.each i hi;have hlt : st.aa.ag.getD i 0 < st.av := by rcases hrow with ⟨e, _⟩ | ⟨_, _, e⟩ <;> have := hO.txg <;> omega
 have hO2 : ZfW (st.putAt i (st.ac.set i text)) := by
  refine ⟨by show (st.ac.set i text).length = 64; rw [length_set]; exact hO.rows, Zh8.ok ⟨?_, ?_, ?_⟩, hO.txg, hO.keep, ?_, hO.gone, hO.dead, ?_⟩
  ·show (st.aa.ag.set _ _).length = 64; rw [length_set]; exact hP.refs
  ·show (st.aa.au.set _ _).length = 64; rw [length_set]; exact hP.last
  ·intro j hj
   rw [hrefs, hlast];have := hP.each j hj;have := hO.txg
   split
   ·rename_i e; subst e
    refine ⟨by omega, by omega, by omega, by omega, by omega⟩
   ·exact hP.each j hj
  ·rw [Q4]
   intro j hj;rw [hrows, hrefs, hlast];have := Q4.1 hO.each j hj
   split
   ·rename_i e; subst e
    exact ⟨by omega, ⟨by omega, by omega⟩, Int.le_refl _⟩
   ·exact this
  ·rw [Y0]
   intro j hj;rw [hrefs];have := Y0.1 hO.owed j hj;show (cnt (st.ak ++ st.ar) j : Int) ≤ _
   split
   ·rename_i e; subst e; omega
   ·exact this
 refine ⟨⟨hO2.ok, fun j h8j hj => ?_⟩, ⟨fun q hq ho hh => ?_, rfl, rfl, rfl⟩, ?_⟩
 ·rw [hrefs, Y3]
  have := h.owes j h8j hj;show ((((if (i : Int) = (j : Int) then 1 else 0) + cnt X j + cnt (st.ak ++ st.ar) j : Nat)) : Int) ≤ _
  by_cases e : i = j
  ·subst e; rw [if_pos rfl, if_pos rfl]; omega
  ·rw [if_neg (by omega), if_neg e]; omega
 ·obtain ⟨j, h8j, hj, e⟩ := Zba ho hh
  rw [Up e, Up e, hrows]
  by_cases ej : i = j
  ·subst ej
   rw [if_pos rfl];rcases hrow with ⟨e0, _⟩ | ⟨_, e1, _⟩
   ·have := h.live hq h8j hj e; omega
   ·exact e1.symm
  ·rw [if_neg ej]
 ·rw [Up (i := i) rfl, hrows, if_pos rfl]
theorem Inv.free {p : PtrD} (h : Inv st (p :: X)) (ho : p.ok = true) : Inv (st.free p) X ∧ Z4 st (st.free p) X := by
 have hO := Za.ok_spec h.ok;have hP := Zq.ok_spec hO.space
 cases hh : p.hole with
 | true =>
  rw [Zcs hh];exact ⟨h.mono fun i _ _ => by rw [Y3]; omega, Z4.refl _ _⟩
 | false =>
  obtain ⟨i, h8, hi, e⟩ := Zba ho hh;have hown := h.owes i h8 hi;rw [Y3, if_pos e] at hown;have hone : ∀ j : Nat, cnt (p :: X) j = (if i = j then 1 else 0) + cnt X j := fun j => by
   rw [Y3, e]; congr 1; by_cases ej : i = j
   ·rw [if_pos ej, if_pos (by omega)]
   ·rw [if_neg ej, if_neg (by omega)]
  by_cases h1 : p.al ≤ st.ax
  ·rw [Zct hh h1]
   have hc : ∀ j, cnt (st.ak ++ (st.ar ++ [p])) j = cnt (st.ak ++ st.ar) j + (if i = j then 1 else 0) := fun j => by
    rw [← List.append_assoc, VC, e]; congr 1; by_cases ej : i = j
    ·rw [if_pos ej, if_pos (by omega)]
    ·rw [if_neg ej, if_neg (by omega)]
   refine ⟨⟨ZfW.ok ⟨hO.rows, hO.space, hO.txg, hO.keep, hO.each, hO.gone, ?_, ?_⟩, fun j h8j hj => ?_⟩, ⟨fun _ _ _ _ => rfl, rfl, rfl, rfl⟩⟩
   ·show (st.ar ++ [p]).all _ = true
    rw [List.all_append, hO.dead, Bool.true_and, List.all_cons, List.all_nil, Bool.and_true];unfold YH; rw [ho, hh, decide_eq_true h1]; rfl
   ·rw [Y0]; intro j hj
    show (cnt (st.ak ++ (st.ar ++ [p])) j : Int) ≤ _;rw [hc];have := Y0.1 hO.owed j hj
    split
    ·rename_i ej; subst ej; show _ ≤ st.aa.ag.getD i 0; omega
    ·exact this
   ·show (((cnt X j + cnt (st.ak ++ (st.ar ++ [p])) j : Nat)) : Int) ≤ st.aa.ag.getD j 0
    have := h.owes j h8j hj;rw [hone] at this; rw [hc]; omega
  ·by_cases h2 : p.al < st.av
   ·rw [Zcu hh h1 h2]
    have hc : ∀ j, cnt ((st.ak ++ [p]) ++ st.ar) j = cnt (st.ak ++ st.ar) j + (if i = j then 1 else 0) := fun j => by
     rw [Zj, VC, Zj, e]
     by_cases ej : i = j
     ·rw [if_pos ej, if_pos (by omega)]; omega
     ·rw [if_neg ej, if_neg (by omega)]; omega
    refine ⟨⟨ZfW.ok ⟨hO.rows, hO.space, hO.txg, hO.keep, hO.each, ?_, hO.dead, ?_⟩, fun j h8j hj => ?_⟩, ⟨fun _ _ _ _ => rfl, rfl, rfl, rfl⟩⟩
    ·show (st.ak ++ [p]).all _ = true
     rw [List.all_append, List.all_cons, List.all_nil, Bool.and_true, Bool.and_eq_true];refine ⟨hO.gone, ?_⟩;unfold YH; rw [ho, hh, decide_eq_true (by show p.al ≤ st.av - 1; omega)]; rfl
    ·rw [Y0]; intro j hj
     show (cnt ((st.ak ++ [p]) ++ st.ar) j : Int) ≤ _;rw [hc];have := Y0.1 hO.owed j hj
     split
     ·rename_i ej; subst ej; show _ ≤ st.aa.ag.getD i 0; omega
     ·exact this
    ·show (((cnt X j + cnt ((st.ak ++ [p]) ++ st.ar) j : Nat)) : Int) ≤ st.aa.ag.getD j 0
     have := h.owes j h8j hj;rw [hone] at this; rw [hc]; omega
   ·rw [Zar hh h1 h2, e, Int.toNat_natCast]
    have hl0 : i < st.ac.length := by rw [hO.rows]; exact hi
    have hl1 : i < st.aa.ag.length := by rw [hP.refs]; exact hi
    have hl2 : i < st.aa.au.length := by rw [hP.last]; exact hi
    have hrefs : ∀ j : Nat, (st.aa.give i).ag.getD j 0 = if i = j then st.aa.ag.getD i 0 - 1 else st.aa.ag.getD j 0 := fun j => X1 hl1
    have hlast : ∀ j : Nat, (st.aa.give i).au.getD j 0 = if i = j ∧ st.aa.ag.getD i 0 - 1 = 0 then 0 else st.aa.au.getD j 0 := fun j => by
     unfold Zq.give; dsimp only
     by_cases ez : st.aa.ag.getD i 0 - 1 = 0
     ·rw [if_pos ez, X1 hl2]; simp only [ez, and_true]
     ·rw [if_neg ez, if_neg fun k => ez k.2]
    have hrows : ∀ j : Nat, (Yu st.ac st.aa i).getD j ByteArray.empty = if i = j ∧ st.aa.ag.getD i 0 - 1 = 0 then ByteArray.empty else st.ac.getD j ByteArray.empty := fun j => by
     unfold Yu
     by_cases ez : st.aa.ag.getD i 0 - 1 = 0
     ·rw [if_pos ez, X1 hl0]; simp only [ez, and_true]
     ·rw [if_neg ez, if_neg fun k => ez k.2]
    have hge : 1 ≤ st.aa.ag.getD i 0 := by omega
    refine ⟨⟨ZfW.ok ⟨by show (Yu _ _ _).length = 64; rw [XF]; exact hO.rows, Zh8.ok ⟨by rw [Zq.give_refs]; exact hP.refs, by rw [Zq.give_last]; exact hP.last, ?_⟩, hO.txg, hO.keep, ?_, hO.gone, hO.dead, ?_⟩, fun j h8j hj => ?_⟩, ⟨fun q hq hqo hqh => ?_, rfl, rfl, rfl⟩⟩
    ·intro j hj
     have hE := hP.each j hj;rw [hrefs, hlast]
     by_cases ej : i = j
     ·subst ej
      by_cases ez : st.aa.ag.getD i 0 - 1 = 0
      ·rw [if_pos rfl, if_pos ⟨rfl, ez⟩]; refine ⟨by omega, by omega, by omega, fun _ => rfl, by omega⟩
      ·rw [if_pos rfl, if_neg fun k => ez k.2]; refine ⟨by omega, by omega, by omega, by omega, by omega⟩
     ·rw [if_neg ej, if_neg fun k => ej k.1]; exact hE
    ·rw [Q4]
     intro j hj;have hE := Q4.1 hO.each j hj;show ((Yu st.ac st.aa i).getD j ByteArray.empty).size ≤ 128 ∧ (((Yu st.ac st.aa i).getD j ByteArray.empty).size = 0 ↔ (st.aa.give i).ag.getD j 0 = 0) ∧ (st.aa.give i).au.getD j 0 ≤ st.av;rw [hrows, hrefs, hlast];have := hO.txg
     by_cases ej : i = j
     ·subst ej
      by_cases ez : st.aa.ag.getD i 0 - 1 = 0
      ·rw [if_pos rfl, if_pos ⟨rfl, ez⟩, if_pos ⟨rfl, ez⟩]; exact ⟨Nat.zero_le _, ⟨fun _ => ez, fun _ => rfl⟩, by omega⟩
      ·rw [if_pos rfl, if_neg fun k => ez k.2, if_neg fun k => ez k.2]; refine ⟨hE.1, ⟨fun k => ?_, fun k => absurd k ez⟩, hE.2.2⟩
       have := hE.2.1.1 k; omega
     ·rw [if_neg ej, if_neg fun k => ej k.1, if_neg fun k => ej k.1]; exact hE
    ·rw [Y0]; intro j hj
     show (cnt (st.ak ++ st.ar) j : Int) ≤ (st.aa.give i).ag.getD j 0;rw [hrefs];have := Y0.1 hO.owed j hj
     split
     ·rename_i ej; subst ej; omega
     ·exact this
    ·show (((cnt X j + cnt (st.ak ++ st.ar) j : Nat)) : Int) ≤ (st.aa.give i).ag.getD j 0
     rw [hrefs];have := h.owes j h8j hj;rw [hone] at this
     by_cases ej : i = j
     ·rw [if_pos ej] at this ⊢; subst ej; omega
     ·rw [if_neg ej] at this ⊢; omega
    ·obtain ⟨j, h8j, hj, eq⟩ := Zba hqo hqh
     rw [Up eq, Up eq];show (Yu st.ac st.aa i).getD j _ = _;rw [hrows]
     by_cases ej : i = j ∧ st.aa.ag.getD i 0 - 1 = 0
     ·obtain ⟨rfl, ez⟩ := ej
      have := Zjw hq eq
      omega
     ·rw [if_neg ej]
end
theorem Inv.step_gone {st : Za} {X : List PtrD} {p : PtrD} {r : List PtrD} (h : Inv st X) (hg : st.ak = p :: r) :
    Inv { st with ac := (UA (st.ac, st.aa) p).1, aa := (UA (st.ac, st.aa) p).2, ak := r } X ∧ Z4 st { st with ac := (UA (st.ac, st.aa) p).1, aa := (UA (st.ac, st.aa) p).2, ak := r } X := by
  have hO := Za.ok_spec h.ok;have hgo := hO.gone;rw [hg, List.all_cons, Bool.and_eq_true] at hgo;have hp := hgo.1;unfold YH at hp;simp only [Bool.and_eq_true, Bool.not_eq_true', decide_eq_true_eq] at hp;obtain ⟨hpo, hph, hpb⟩ := hp;obtain ⟨a, h8, ha, e⟩ := Zba hpo hph;have hin := Zbn (p := p) (m := st.av - 1) (by unfold YH; rw [hpo, hph, decide_eq_true hpb]; rfl);have hc : ∀ j, cnt (st.ak ++ st.ar) j = (if a = j then 1 else 0) + cnt (r ++ st.ar) j := fun j => by
    rw [hg, List.cons_append, Y3, e]; congr 1; by_cases ej : a = j
    · rw [if_pos ej, if_pos (by omega)]
    · rw [if_neg ej, if_neg (by omega)]
  let q : PtrD := { p with al := st.av }
  have hqh : q.hole = false := by
    cases hq : q.hole with
    | false => rfl
    | true => have := YP hq; have e2 : q.aC = 0 := by rw [this]; rfl
              have e3 : q.aC = p.aC := rfl
              omega
  have hqo : q.ok = true := by
    have h1 := hpo;unfold PtrD.ok at h1 ⊢;rw [hph, Bool.false_or] at h1;rw [hqh, Bool.false_or];simp only [Bool.and_eq_true] at h1 ⊢;exact ⟨⟨⟨⟨h1.1.1.1.1, XT hO.txg.1 hO.txg.2⟩, h1.1.1.2⟩, h1.1.2⟩, h1.2⟩
  have h0 : Inv { st with ak := r } (q :: X) := by
    refine ⟨ZfW.ok ⟨hO.rows, hO.space, hO.txg, hO.keep, hO.each, hgo.2, hO.dead, ?_⟩, fun j h8j hj => ?_⟩
    · rw [Y0]; intro j hj
      have := Y0.1 hO.owed j hj;rw [hc] at this;show (cnt (r ++ st.ar) j : Int) ≤ st.aa.ag.getD j 0
      omega
    · have := h.owes j h8j hj
      rw [hc] at this;rw [Y3];show (((if p.aC = (j : Int) then 1 else 0) + cnt X j + cnt (r ++ st.ar) j : Nat) : Int) ≤ st.aa.ag.getD j 0;rw [e]
      by_cases ej : a = j
      · rw [if_pos ej] at this; rw [if_pos (by omega)]; omega
      · rw [if_neg ej] at this; rw [if_neg (by omega)]; omega
  have h1 := h0.free hqo;rw [Zar hqh (by show ¬ st.av ≤ st.ax; have := hO.keep; omega) (by show ¬ st.av < st.av; omega)] at h1;exact ⟨h1.1, ⟨h1.2.row, rfl, rfl, rfl⟩⟩
theorem Inv.drops : ∀ {g : List PtrD} {st : Za} {X : List PtrD}, Inv st X → st.ak = g → Inv { st with ac := (Yw (st.ac, st.aa) g).1, aa := (Yw (st.ac, st.aa) g).2, ak := [] } X ∧ Z4 st { st with ac := (Yw (st.ac, st.aa) g).1, aa := (Yw (st.ac, st.aa) g).2, ak := [] } X
 | [], st, X, h, hg => by
  have e : ({ st with ac := (Yw (st.ac, st.aa) []).1, aa := (Yw (st.ac, st.aa) []).2, ak := [] } : Za) = st := by
   cases st; simp only [Yw, List.foldl_nil] at hg ⊢; subst hg; rfl
  rw [e]; exact ⟨h, Z4.refl _ _⟩
 | p :: r, st, X, h, hg => by
  obtain ⟨h1, k1⟩ := h.step_gone hg;obtain ⟨h2, k2⟩ := Inv.drops h1 rfl;exact ⟨h2, k1.trans k2⟩
structure Yy (st st' : Za) (X : List PtrD) : Prop where
  row : ∀ q ∈ X, q.ok = true → q.hole = false → Yt st' q = Yt st q
  txg : st.av ≤ st'.av
theorem Z4.rows {st st' : Za} {X : List PtrD} (h : Z4 st st' X) : Yy st st' X := ⟨h.row, by rw [h.txg]; exact Int.le_refl _⟩
theorem Yy.mono {a b : Za} {X Y : List PtrD} (h : Yy a b X) (hs : ∀ q ∈ Y, q ∈ X) : Yy a b Y := ⟨fun q hq => h.row q (hs q hq), h.txg⟩
theorem Inv.next {st : Za} {X : List PtrD} (h : Inv st X) (ht : st.av < 900) : Inv st.nextOf X ∧ Yy st st.nextOf X := by
 obtain ⟨h1, k1⟩ := h.drops rfl;have hO := Za.ok_spec h1.ok;have hP := Zq.ok_spec hO.space;have hE := Q4.1 hO.each;refine ⟨⟨ZfW.ok ⟨hO.rows, hO.space, ⟨by have := hO.txg.1; show 1 ≤ st.av + 1; have h5 : 1 ≤ st.av := this; omega, by show st.av + 1 ≤ 900; omega⟩, ⟨hO.keep.1, by have h5 : st.ax ≤ st.av - 1 := hO.keep.2; show st.ax ≤ st.av + 1 - 1; omega⟩, ?_, rfl, hO.dead, hO.owed⟩, h1.owes⟩, ⟨k1.row, by show st.av ≤ st.av + 1; omega⟩⟩;rw [Q4];intro i hi;obtain ⟨a, b, c⟩ := hE i hi;exact ⟨a, b, by have h5 : (Yw (st.ac, st.aa) st.ak).2.au.getD i 0 ≤ st.av := c; show (Yw (st.ac, st.aa) st.ak).2.au.getD i 0 ≤ st.av + 1; omega⟩
theorem Zfo {st st' : Za} {p : PtrD} (h : p.hole = false → Yt st' p = Yt st p) : XP st' p = XP st p := by
 cases hh : p.hole with
 | true => rw [ZaY hh, ZaY hh]
 | false => rw [QQ hh, QQ hh, h hh]
theorem Zat {st st' : Za} {p : PtrD} (h : p.hole = false → Yt st' p = Yt st p) : Zn st' p = Zn st p := by
 cases hh : p.hole with
 | true => rw [Xd hh, Xd hh]
 | false => unfold Zn; rw [hh, h hh]
theorem ZbU {st st' : Za} {p : PtrD} {n : Int} (h : p.hole = false → Yt st' p = Yt st p) : kids st' p n = kids st p n := by
 unfold kids;rw [Zfo h, Zat h]
noncomputable def lvL (st : Za) : Nat → PtrD → List PtrD
 | 0, p => [p]
 | n + 1, p => ((kids st p ((n + 1 : Nat) : Int)).getD []).flatMap (lvL st n)
theorem QS {st : Za} {p : PtrD} {n : Nat} {l : List PtrD} (hk : kids st p ((n + 1 : Nat) : Int) = some l) : lvL st (n + 1) p = l.flatMap (lvL st n) := by
 show ((kids st p ((n + 1 : Nat) : Int)).getD []).flatMap (lvL st n) = _;rw [hk]; rfl
theorem YB {f g : PtrD → List PtrD} : ∀ {l : List PtrD}, (∀ q ∈ l, f q = g q) → l.flatMap f = l.flatMap g
 | [], _ => rfl
 | q :: r, h => by rw [flatMap_cons, flatMap_cons, h q (mem_cons_self ..), YB fun x hx => h x (mem_cons_of_mem _ hx)]
theorem Wf.stays {st st' : Za} (ht : st.av ≤ st'.av) : ∀ {n : Nat} {p : PtrD}, Wf st n p → (∀ q ∈ allL st n p, Yt st' q = Yt st q) → Wf st' n p ∧ allL st' n p = allL st n p ∧ lvL st' n p = lvL st n p
 | 0, p, h, hr => by
  have e : p.hole = false → Yt st' p = Yt st p := fun hh => hr p (by rw [Qz hh]; exact mem_singleton.2 rfl)
  exact ⟨⟨h.1, by have := h.2.1; omega, h.2.2.1, by rw [Zfo e]; exact h.2.2.2⟩, rfl, rfl⟩
 | n + 1, p, ⟨ho, hb, l, hk, hw⟩, hr => by
  have e : p.hole = false → Yt st' p = Yt st p := fun hh => hr p (by rw [YZ hh hk]; exact mem_cons_self ..)
  have hk2 : kids st' p ((n + 1 : Nat) : Int) = some l := by rw [ZbU e]; exact hk
  have ih : ∀ q ∈ l, Wf st' n q ∧ allL st' n q = allL st n q ∧ lvL st' n q = lvL st n q := fun q hq => Wf.stays ht (hw q hq) fun x hx => by
   cases hh : p.hole with
   | false => exact hr x (by rw [YZ hh hk]; exact mem_cons_of_mem _ (List.mem_flatMap.2 ⟨q, hq, hx⟩))
   | true =>
    rcases (QR hk).2.2 with ⟨_, rfl⟩ | ⟨h2, _⟩
    ·simp only [YI, mem_cons, List.not_mem_nil, or_false, or_self] at hq
     rw [hq, ZV X7] at hx; cases hx
    ·rw [hh] at h2; cases h2
  refine ⟨⟨ho, by omega, l, hk2, fun q hq => (ih q hq).1⟩, ?_, ?_⟩
  ·cases hh : p.hole with
   | true => rw [ZV hh, ZV hh]
   | false => rw [YZ hh hk, YZ hh hk2, YB fun q hq => (ih q hq).2.1]
  ·rw [QS hk, QS hk2, YB fun q hq => (ih q hq).2.2]
theorem UQ {st : Za} : ∀ {n : Nat} {p : PtrD}, Wf st n p → ∀ q ∈ allL st n p, q.ok = true ∧ q.hole = false
 | 0, p, h, q, hq => by
  cases hh : p.hole with
  | true => rw [ZV hh] at hq; cases hq
  | false => rw [Qz hh, mem_singleton] at hq; rw [hq]; exact ⟨h.1, hh⟩
 | n + 1, p, ⟨ho, hb, l, hk, hw⟩, q, hq => by
  cases hh : p.hole with
  | true => rw [ZV hh] at hq; cases hq
  | false =>
   rw [YZ hh hk] at hq;rcases mem_cons.1 hq with rfl | hq
   ·exact ⟨ho, hh⟩
   ·obtain ⟨k, hkl, hq⟩ := List.mem_flatMap.1 hq
    exact UQ (hw k hkl) q hq
theorem Wf.rows {st st' : Za} {n : Nat} {p : PtrD} {X : List PtrD} (h : Wf st n p) (hr : Yy st st' X) (hs : ∀ q ∈ allL st n p, q ∈ X) : Wf st' n p ∧ allL st' n p = allL st n p ∧ lvL st' n p = lvL st n p :=
 h.stays hr.txg fun q hq => hr.row q (hs q hq) (UQ h q hq).1 (UQ h q hq).2
theorem Znv {st : Za} (h0 : 0 ≤ st.av) {n : Nat} {p : PtrD} (h : p.hole = true) : Wf st n p := by rw [YP h]; exact Wf.zero h0 n
theorem Zgh {st : Za} : ∀ {n : Nat} {p : PtrD}, Wf st n p → (lvL st n p).length = 4 ^ n
 | 0, p, _ => rfl
 | n + 1, p, ⟨ho, hb, l, hk, hw⟩ => by
  rw [QS hk];have : ∀ m : List PtrD, (∀ q ∈ m, Wf st n q) → (m.flatMap (lvL st n)).length = m.length * 4 ^ n := by
   intro m
   induction m with
   | nil => intro _; simp
   | cons q r ih => intro hq; rw [flatMap_cons, length_append, Zgh (hq q (mem_cons_self ..)), ih fun x hx => hq x (mem_cons_of_mem _ hx), length_cons, Nat.add_mul]; omega
  rw [this l hw, VV hk, Nat.pow_succ]; omega
theorem ZbV {st : Za} {p : PtrD} (h : p.hole = true) : ∀ n, lvL st n p = replicate (4 ^ n) PtrD.zero
 | 0 => by rw [YP h]; rfl
 | n + 1 => by
  rw [QS (JD h)];simp only [YI, flatMap_cons, flatMap_nil, append_nil, ZbV X7 n, List.replicate_append_replicate]
  congr 1; rw [Nat.pow_succ]; omega
theorem ZbW {st : Za} : ∀ {n : Nat} {p : PtrD}, Wf st n p → ∀ q ∈ lvL st n p, Wf st 0 q
 | 0, p, h, q, hq => by rw [show lvL st 0 p = [p] from rfl, mem_singleton] at hq; rw [hq]; exact h
 | n + 1, p, ⟨ho, hb, l, hk, hw⟩, q, hq => by
  rw [QS hk] at hq;obtain ⟨k, hkl, hq⟩ := List.mem_flatMap.1 hq;exact ZbW (hw k hkl) q hq
noncomputable def Vz (st : Za) : List PtrD → Option (List (Option Zb))
 | [] => some []
 | p :: r => bif p.hole then (Vz st r).map (none :: ·) else match J1 (Zn st p) with
  | none => none
  | some n => bif VS st n.ah then (Vz st r).map (some n :: ·) else none
noncomputable def ZeM (st : Za) (t : Ze) : Option (List (Option Zb)) := (leavesF st t).bind (Vz st)
theorem Zko {st : Za} {t : Ze} (h : leavesF st t = none) : ZeM st t = none := by unfold ZeM; rw [h]; rfl
theorem Zfp {st : Za} {t : Ze} {l : List PtrD} (h : leavesF st t = some l) : ZeM st t = Vz st l := by unfold ZeM; rw [h]; rfl
theorem Zcv {st : Za} {p : PtrD} {r : List PtrD} (h : p.hole = true) : Vz st (p :: r) = (Vz st r).map (none :: ·) := by
 show (bif p.hole then _ else _) = _;rw [h]; rfl
theorem Zhp {st : Za} {p : PtrD} {r : List PtrD} (h : p.hole = false) (hn : J1 (Zn st p) = none) : Vz st (p :: r) = none := by
 show (bif p.hole then _ else _) = _;rw [h, hn]; rfl
theorem Zfq {st : Za} {p : PtrD} {r : List PtrD} {n : Zb} (h : p.hole = false) (hn : J1 (Zn st p) = some n) (ht : VS st n.ah = false) : Vz st (p :: r) = none := by
 show (bif p.hole then _ else _) = _;rw [h, hn];simp only [cond_false, ht]
theorem Zd0 {st : Za} {p : PtrD} {r : List PtrD} {n : Zb} (h : p.hole = false) (hn : J1 (Zn st p) = some n) (ht : VS st n.ah = true) : Vz st (p :: r) = (Vz st r).map (some n :: ·) := by
 show (bif p.hole then _ else _) = _;rw [h, hn];simp only [cond_false, ht, cond_true]
theorem Zd1 {xs : List PtrD} {i : Nat} (h : i < xs.length) : xs.drop i = xs.getD i PtrD.zero :: xs.drop (i + 1) := by
 rw [List.drop_eq_getElem_cons h, getD_eq_getElem?_getD, List.getElem?_eq_getElem h]; rfl
theorem Zhq {st : Za} : ∀ {l : List PtrD} {ns : List (Option Zb)}, Vz st l = some ns → ns.length = l.length
 | [], ns, h => by obtain rfl := Option.some.inj h; rfl
 | p :: r, ns, h => by
  have key : ∀ o : Option Zb, (Vz st r).map (o :: ·) = some ns → ns.length = (p :: r).length := fun o h => by
   cases hr : Vz st r with
   | none => rw [hr] at h; cases h
   | some m =>
    rw [hr] at h;obtain rfl := Option.some.inj h;rw [length_cons, length_cons, Zhq hr]
  cases hh : p.hole with
  | true => exact key _ ((Zcv hh).symm.trans h)
  | false =>
   cases hn : J1 (Zn st p) with
   | none => rw [Zhp hh hn] at h; cases h
   | some n =>
    cases ht : VS st n.ah with
    | false => rw [Zfq hh hn ht] at h; cases h
    | true => exact key _ ((Zd0 hh hn ht).symm.trans h)
theorem UR {st : Za} {t : Ze} {l : List PtrD} (h : leavesF st t = some l) : l.length ≤ 16 := by
 obtain ⟨x, ht, hd, _, rfl, hx, hn⟩ := Za0 h;unfold topB at ht;rw [Bool.and_eq_true] at ht;have := Zs ht.1
 omega
def Zhr (st : Za) (p : PtrD) (o : Option Zb) : Prop := (p.hole = true ∧ o = none) ∨ (p.hole = false ∧ ∃ n, o = some n ∧ J1 (Zn st p) = some n ∧ VS st n.ah = true)
theorem Zdq {st : Za} : ∀ {l : List PtrD} {ns : List (Option Zb)}, Vz st l = some ns → ∀ k, k < l.length → Zhr st (l.getD k PtrD.zero) (ns.getD k none)
 | [], ns, h, k, hk => absurd hk (Nat.not_lt_zero _)
 | p :: r, ns, h, k, hk => by
  have key : ∀ o : Option Zb, Zhr st p o → (Vz st r).map (o :: ·) = some ns → Zhr st ((p :: r).getD k PtrD.zero) (ns.getD k none) := fun o ho h => by
   cases hr : Vz st r with
   | none => rw [hr] at h; cases h
   | some m =>
    rw [hr] at h;obtain rfl := Option.some.inj h
    cases k with
    | zero => exact ho
    | succ k => exact Zdq hr k (by simpa using hk)
  cases hh : p.hole with
  | true => exact key _ (.inl ⟨hh, rfl⟩) ((Zcv hh).symm.trans h)
  | false =>
   cases hn : J1 (Zn st p) with
   | none => rw [Zhp hh hn] at h; cases h
   | some n =>
    cases ht : VS st n.ah with
    | false => rw [Zfq hh hn ht] at h; cases h
    | true => exact key _ (.inr ⟨hh, n, rfl, hn, ht⟩) ((Zd0 hh hn ht).symm.trans h)
theorem Zgi {st : Za} {t : Ze} {ns : List (Option Zb)} (h : ZeM st t = some ns) : ∃ l, leavesF st t = some l ∧ Vz st l = some ns ∧ ns.length = l.length := by
 cases hl : leavesF st t with
 | none => rw [Zko hl] at h; cases h
 | some l => rw [Zfp hl] at h; exact ⟨l, rfl, h, Zhq h⟩
theorem Za.reads_of {W w : World} {s : List Asr} (h : St W s w) (x : Za) (a0 : Option Addr) (c0 : Nat) (a1 : Option Addr) (c1 : Nat) (a2 : Option Addr) (c2 : Nat) (a4 : Option Addr) (c4 : Nat) (a6 : Option Addr) (c6 : Nat) (i0 : Nat) (i1 : Nat) (i2 : Nat) (i4 : Nat) (i6 : Nat) (h0 : s[i0]? = some (Zg Zu 1 9 (.slice a0 x.ac.length c0) x.ac)) (h1 : s[i1]? = some (Zg ZG 1 3 (.slice a1 x.aa.ag.length c1) x.aa.ag)) (h2 : s[i2]? = some (Zg ZG 1 3 (.slice a2 x.aa.au.length c2) x.aa.au)) (h4 : s[i4]? = some (Zg PtrD.cells 5 24 (.slice a4 x.ak.length c4) x.ak)) (h6 : s[i6]? = some (Zg PtrD.cells 5 24 (.slice a6 x.ar.length c6) x.ar)) : Za.Reads w (.agg #[.slice a0 x.ac.length c0, .slice a1 x.aa.ag.length c1, .slice a2 x.aa.au.length c2, .int .i64 x.av, .slice a4 x.ak.length c4, .int .i64 x.ax, .slice a6 x.ar.length c6, .bool x.aA]) x := by
 obtain ⟨_, _, e0, r0⟩ := h.rdS Zf i0 h0;simp only [Value.slice.injEq, true_and] at e0;obtain ⟨rfl, rfl⟩ := e0;obtain ⟨_, _, e1, r1⟩ := h.rdS Zp i1 h1;simp only [Value.slice.injEq, true_and] at e1;obtain ⟨rfl, rfl⟩ := e1;obtain ⟨_, _, e2, r2⟩ := h.rdS Zp i2 h2;simp only [Value.slice.injEq, true_and] at e2;obtain ⟨rfl, rfl⟩ := e2;obtain ⟨_, _, e4, r4⟩ := h.rdS PtrD.cells_len i4 h4;simp only [Value.slice.injEq, true_and] at e4;obtain ⟨rfl, rfl⟩ := e4;obtain ⟨_, _, e6, r6⟩ := h.rdS PtrD.cells_len i6 h6;simp only [Value.slice.injEq, true_and] at e6;obtain ⟨rfl, rfl⟩ := e6;exact ⟨a0, c0, a1, c1, a2, c2, a4, c4, a6, c6, rfl, r0, r1, r2, r4, r6⟩
theorem ZiB (v : Value) (st : Za) (text : ByteArray) (w0 : World) (hr : Za.Reads w0 v st) (h0 : st.ac.length = 64) (h1 : st.aa.ag.length = 64) (h2 : st.aa.au.length = 64) : Calls prog 179 #[v, .string text] w0 fun e w' => e = .returned (.int .i64 (ZaC st text)) ∧ Below w0.heap.size w0 w' := by
 obtain ⟨a0, c0, a1, c1, a2, c2, a4, c4, a6, c6, rfl, r0, r1, r2, _, _⟩ := hr;obtain ⟨g0, o0, r0⟩ := r0.opn;obtain ⟨g1, o1, r1⟩ := r1.opn;obtain ⟨g2, o2, r2⟩ := r2.opn;have R0 := Bx.mk r0;have R1 := Bx.mk r1;have R2 := Bx.mk r2;clear r0 r1 r2;have E := Bx.mk (St.start w0);refine QK func179 rfl ntmps179 [(0, sV a0 c0 a1 c1 a2 c2 a4 c4 a6 c6 st), (1, .string text)] ⟨rfl, rfl, trivial⟩ rfl ?_;refine xsr ?_;refine ybx E ?_;clear E;intro w1 b1 E;refine xr 1 rfl<|xne<|xsq<|xsr<|xr 1 rfl<|xne<|xbl ?_;intro a J;refine Zt (ι := Nat) (fun k a w => ((8 ≤ k ∧ k ≤ 64) ∧ ZT (Uh st text) 56 8 = ZT (Uh st text) (64 - k) k) ∧ Fr 40 a [(1, .string text), (2, .pointer (some ⟨b1, 0, none⟩)), (5, .int .i64 (k : Int))] ∧ St w0 ([boxA b1 8 44 (sV a0 c0 a1 c1 a2 c2 a4 c4 a6 c6 st)]) w) (fun k => 64 - k) 8 ⟨⟨by omega, rfl⟩, J.less _ ⟨rfl, rfl, rfl, trivial⟩, E.o⟩ ?_;clear J E; clear a;rintro k a w2 ⟨⟨⟨hk, hk2⟩, hf⟩, J, E⟩;replace E := Bx.mk E;revert a;refine xsq<|xsr<|xr 2 rfl<|xne<|xcs 7 rfl (fun cc1=>?_) fun cc1=>?_
 have cc1 := of_decide_eq_true cc1;refine xct rfl<|xsk<|xet<|xsq<|xbl<|xsq ?_;intro a J;refine Yn (by kernel_rfl) (by kernel_rfl) E.o ?_;revert a;refine Qf 0 rfl<|Ql 0 rfl rfl<|xqr 1 rfl<|xq rfl (fun E=>vxr 9 k 1 rfl (R0.out.ao k (by omega)))<|xq rfl (fun E a J=>ylo (v := .string (st.ac.getD k ByteArray.empty)) rfl (J.ev rfl) (R0.out.elem1 E (Zi (xs := st.ac) (j := k) (d := ByteArray.empty) (by omega)) rfl))<|xqr 1 rfl<|xq rfl (fun E a J=>Y7 rfl (J.ev rfl) (J.ev rfl))<|xqr 1 rfl<|xcs 17 rfl (fun cc2=>?_) fun cc2=>?_
 refine Qf 1 rfl<|Qf 1 rfl<|Ql 0 rfl rfl<|xqr 1 rfl<|xq rfl (fun E=>vxr 3 k 1 rfl (R2.out.ao k (by omega)))<|xq rfl (fun E a J=>ylo (v := .int .i64 (st.aa.au.getD k 0)) rfl (J.ev rfl) (R2.out.elem1 E (Zi (xs := st.aa.au) (j := k) (d := 0) (by omega)) rfl))<|Qf 3 rfl<|Ql 0 rfl rfl<|xqr 3 rfl<|xcs 28 rfl (fun cc3=>?_) fun cc3=>?_;refine Qf 1 rfl<|Qf 0 rfl<|Ql 0 rfl rfl<|xqr 1 rfl<|xq rfl (fun E=>vxr 3 k 1 rfl (R1.out.ao k (by omega)))<|xq rfl (fun E a J=>ylo (v := .int .i64 (st.aa.ag.getD k 0)) rfl (J.ev rfl) (R1.out.elem1 E (Zi (xs := st.aa.ag) (j := k) (d := 0) (by omega)) rfl))<|Qf 3 rfl<|Ql 0 rfl rfl<|xqr 2 rfl ?_;intro a J;refine wpQuiet_nil ?_; intro w3 E; replace E := Bx.mk E;revert a;refine xet<|xcs 38 rfl (fun cc4=>?_) fun cc4=>?_
 refine xct rfl<|xsr<|xr 2 rfl<|xne<|xre<|xbr<|xtr<|xtr<|xbr<|xtr<|xb1 results179 rfl ?_;have hp : Uh st text k = true := by unfold Uh; rw [cc2, cc3, cc4]; rfl
 have he : ZaC st text = k := by unfold ZaC; rw [Zj2 (by omega) hp hf]; exact Zjo (by omega)
 exact ⟨by rw [he], E.o.bel⟩;refine xcf rfl<|xsk<|xeb<|xet<|xrl<|xr 1 rfl<|xy rfl (vad rfl)<|xr 1 rfl<|xne ?_;have hp : Uh st text k = false := by unfold Uh; rw [cc2, cc3, cc4]; rfl
 intro a J;exact ⟨k + 1, ⟨⟨by omega, Zcj (by omega) hp hf rfl⟩, J.less _ ⟨rfl, rfl, rfl, trivial⟩, E.o⟩, (by omega)⟩;refine xqr 10 rfl ?_;intro a J;refine wpQuiet_nil ?_; intro w4 E; replace E := Bx.mk E;revert a;refine xet<|xcf rfl<|xsk<|xeb<|xet<|xrl<|xr 1 rfl<|xy rfl (vad rfl)<|xr 1 rfl<|xne ?_;have hp : Uh st text k = false := by unfold Uh; rw [cc2, cc3]; rfl
 intro a J;exact ⟨k + 1, ⟨⟨by omega, Zcj (by omega) hp hf rfl⟩, J.less _ ⟨rfl, rfl, rfl, trivial⟩, E.o⟩, (by omega)⟩;refine xqr 21 rfl ?_;intro a J;refine wpQuiet_nil ?_; intro w5 E; replace E := Bx.mk E;revert a;refine xet<|xcf rfl<|xsk<|xeb<|xet<|xrl<|xr 1 rfl<|xy rfl (vad rfl)<|xr 1 rfl<|xne ?_;have hp : Uh st text k = false := by unfold Uh; rw [cc2]; rfl
 intro a J;exact ⟨k + 1, ⟨⟨by omega, Zcj (by omega) hp hf rfl⟩, J.less _ ⟨rfl, rfl, rfl, trivial⟩, E.o⟩, (by omega)⟩;have cc1 := of_decide_eq_false cc1;refine xcf rfl<|xex<|xtx<|xtx<|xbh<|xet<|xsr<|xr 1 rfl<|xne<|xre<|xb1 results179 rfl ?_;have he : ZaC st text = -1 := by unfold ZaC; rw [Zlx (by omega) hf]; rfl
 exact ⟨by rw [he], E.o.bel⟩
theorem Zmc (ao : Option Addr) (cap : Nat) (xs : List Int) (n : Int) (w0 : World) (hr : Rd ZG 1 w0 ao xs.length xs) (hl : xs.length ≤ 9223372036854775806) : Calls prog 195 #[.slice ao xs.length cap, .int .i64 n] w0 fun e w' => e = .returned (.bool (inL xs n)) ∧ Below w0.heap.size w0 w' := by
 obtain ⟨g0, o0, r0⟩ := hr.opn;have R0 := Bx.mk r0;clear r0;have E := Bx.mk (St.start w0);refine ent func195 ntmps195 ?_;refine xsr<|xr 1 rfl<|xne<|xsq<|xsr<|xr 1 rfl<|xne<|xbl ?_;intro a J;refine Zt (ι := Nat) (fun k a w => (k ≤ xs.length ∧ (xs.take k).any (· == n) = false) ∧ Fr 18 a [(0, .slice ao xs.length cap), (1, .int .i64 n), (5, .int .i64 (k : Int))] ∧ St w0 ([]) w) (fun k => xs.length - k) 0 ⟨⟨Nat.zero_le _, rfl⟩, J.ls _, E.o⟩ ?_;clear J E; clear a;rintro k a w1 ⟨⟨hk, hf⟩, J, E⟩;replace E := Bx.mk E;revert a;refine xsq<|xsr<|xr 2 rfl<|xy rfl (vn 3 1 rfl)<|xr 1 rfl<|xne<|xcs 9 rfl (fun cc1=>?_) fun cc1=>?_
 have cc1 := of_decide_eq_true cc1;refine xct rfl<|xsk<|xet<|xsq<|xbl<|xsr<|xr 2 rfl<|xy rfl (vxr 3 k 1 rfl (R0.out.ao k (by omega)))<|xy rfl (fun a J=>ylo (v := .int .i64 (xs.getD k 0)) rfl (J.ev rfl) (R0.out.elem1 E.o (Zi (xs := xs) (j := k) (d := 0) (by omega)) rfl))<|xr 2 rfl<|xne<|xcs 17 rfl (fun cc2=>?_) fun cc2=>?_;refine xct rfl<|xsr<|xr 1 rfl<|xne<|xre<|xbr<|xtr<|xtr<|xbr<|xtr<|xb1 results195 rfl ?_;exact ⟨by rw [Zly (by omega) cc2], E.o.bel⟩;refine xcf rfl<|xsk<|xeb<|xet<|xrl<|xr 1 rfl<|xy rfl (vad rfl)<|xr 1 rfl<|xne ?_;intro a J;exact ⟨k + 1, ⟨⟨by omega, Zlz (by omega) cc2 hf⟩, J.less _ ⟨rfl, rfl, rfl, trivial⟩, E.o⟩, (by omega)⟩;have cc1 := of_decide_eq_false cc1;refine xcf rfl<|xex<|xtx<|xtx<|xbh<|xet<|xsr<|xr 1 rfl<|xne<|xre<|xb1 results195 rfl ?_;exact ⟨by rw [Zne (by omega) hf], E.o.bel⟩
theorem Zbb (ao a2 a3 : Option Addr) (cap n2 c2 c3 : Nat) (s : Zq) (w0 : World) (hr : Rd ZG 1 w0 ao s.ag.length s.ag) (hl : s.ag.length = 64) : Calls prog 180 #[.agg #[.slice ao s.ag.length cap, .slice a2 n2 c2], .int .i64 8, .slice a3 0 c3] w0 fun e w' => e = .returned (.int .i64 (Ui s)) ∧ Below w0.heap.size w0 w' := by
 obtain ⟨g0, o0, r0⟩ := hr.opn;have R0 := Bx.mk r0;clear r0;have E := Bx.mk (St.start w0);refine ent func180 ntmps180 ?_;refine xsr ?_;refine ybx E ?_;clear E;intro w1 b1 E;refine xr 1 rfl<|xne<|xsq<|xsr<|xr 1 rfl ?_;refine ycB ((X5 8 _).mono fun _ _ h => ⟨h.1, h.2 ▸ Below.refl _ _⟩) func48 E ?_;clear E;intro w2 E;refine xr 1 rfl<|xne<|xcs 12 rfl (fun cc1=>?_) fun cc1=>?_;exact absurd cc1 (by decide);refine xcf rfl<|xsk<|xet<|xsr<|xr 1 rfl<|xne<|xsq<|xsr<|xr 1 rfl<|xne<|xbl ?_;intro a J;refine Zt (ι := Nat) (fun i a w => (i ≤ 56 ∧ ZT (VJ s) 56 8 = ZT (VJ s) (56 - i) (8 + i)) ∧ Fr 38 a [(1, .int .i64 8), (2, .slice a3 0 c3), (3, .pointer (some ⟨b1, 0, none⟩)), (7, .int .i64 56), (8, .int .i64 (i : Int))] ∧ St w0 ([boxA b1 2 41 (.agg #[.slice ao s.ag.length cap, .slice a2 n2 c2])]) w) (fun i => 56 - i) 0 ⟨⟨Nat.zero_le _, rfl⟩, J.ls _, E.o⟩ ?_;clear J E; clear a;rintro i a w3 ⟨⟨hk, hf⟩, J, E⟩;replace E := Bx.mk E;revert a;refine xsq<|xsr<|xr 3 rfl<|xne<|xcs 15 rfl (fun cc2=>?_) fun cc2=>?_
 have cc2 := of_decide_eq_true cc2;refine xct rfl<|xsk<|xet<|xsq<|xbl<|xsr<|xr 1 rfl<|xy rfl (fun a J=>ZO rfl (J.ev rfl) (J.ev rfl) (Yh (by omega)))<|xr 1 rfl<|xy rfl (vad rfl)<|xr 1 rfl<|xy rfl (fun a J=>QI rfl (J.ev rfl) (J.ev rfl) (by omega) (QL (by omega) (by omega)))<|xy rfl (fun a J=>Yc (r := ((8 + i : Nat) : Int)) rfl (J.ev rfl) (J.ev rfl) ((Yh (by omega)).trans (by omega)))<|xr 1 rfl<|xne<|xsr<|Xf 0 rfl<|Xl 0 E rfl rfl<|xr 1 rfl<|xy rfl (vxr 3 (8 + i) 1 rfl (R0.out.ao (8 + i) (by omega)))<|xy rfl (fun a J=>ylo (v := .int .i64 (s.ag.getD (8 + i) 0)) rfl (J.ev rfl) (R0.out.elem1 E.o (Zi (xs := s.ag) (j := 8 + i) (d := 0) (by omega)) rfl))<|xr 2 rfl<|xcs 31 rfl (fun cc3=>?_) fun cc3=>?_;refine xr 2 rfl ?_;refine Zaz (Zmc _ _ ([] : List Int) ((8 + i : Nat) : Int) _ ⟨rfl, fun i hi => absurd hi (Nat.not_lt_zero _)⟩ (by simp)) func195 E ?_;clear E;intro w4 E;refine xr 2 rfl<|xne<|xcs 36 rfl (fun cc4=>?_) fun cc4=>?_;refine xct rfl<|xsr<|xr 2 rfl<|xne<|xre<|xbr<|xtr<|xtr<|xbr<|xtr<|xb1 results180 rfl ?_;have hp : VJ s (8 + i) = true := cc3;exact ⟨by rw [show Ui s = ((8 + i : Nat) : Int) by unfold Ui; rw [hf, show 56 - i = (55 - i) + 1 by omega, ZaQ hp]; exact Zjo (by omega)], E.o.bel⟩;refine xcf rfl<|xsk<|xeb<|xet<|xrl<|xr 1 rfl<|xy rfl (vad rfl)<|xr 1 rfl<|xne ?_;have hp : VJ s (8 + i) = false := by unfold VJ; first | exact cc3 | (exfalso; simp [inL] at cc4)
 intro a J;exact ⟨i + 1, ⟨⟨by omega, by rw [hf, show 56 - i = (56 - (i + 1)) + 1 by omega, Zak hp]; rfl⟩, J.less _ ⟨rfl, rfl, rfl, rfl, rfl, trivial⟩, E.o⟩, (by omega)⟩;refine xr 5 rfl<|xne<|xcf rfl<|xsk<|xeb<|xet<|xrl<|xr 1 rfl<|xy rfl (vad rfl)<|xr 1 rfl<|xne ?_;have hp : VJ s (8 + i) = false := by unfold VJ; first | exact cc3 | (exfalso; simp [inL] at cc3)
 intro a J;exact ⟨i + 1, ⟨⟨by omega, by rw [hf, show 56 - i = (56 - (i + 1)) + 1 by omega, Zak hp]; rfl⟩, J.less _ ⟨rfl, rfl, rfl, rfl, rfl, trivial⟩, E.o⟩, (by omega)⟩;have cc2 := of_decide_eq_false cc2;refine xcf rfl<|xex<|xtx<|xtx<|xbh<|xet<|xsr<|xr 1 rfl<|xne<|xre<|xb1 results180 rfl ?_;exact ⟨by rw [show Ui s = -1 by unfold Ui; rw [hf, show 56 - i = 0 by omega, show i = 56 by omega]; rfl], E.o.bel⟩
theorem Vj (k : Nat) : Zf2 k < 0 ∨ ∃ i : Nat, Zf2 k = i ∧ i < 64 := by
 unfold Zf2
 split
 ·exact .inr ⟨k, rfl, by assumption⟩
 ·exact .inl (by omega)
def ZoA (w0 : World) (st : Za) (text : ByteArray) (level : Int) (a0 : Option Addr) (c0 : Nat) (a1 : Option Addr) (c1 : Nat) (a2 : Option Addr) (c2 : Nat) (a4 : Option Addr) (c4 : Nat) (a6 : Option Addr) (c6 : Nat) (F : List Asr) (e : Ending) (w' : World) : Prop :=
 (Qt st text level < 0 ∧ e = .returned (.tuple #[.agg #[.slice a0 st.ac.length c0, .slice a1 st.aa.ag.length c1, .slice a2 st.aa.au.length c2, .int .i64 st.av, .slice a4 st.ak.length c4, .int .i64 st.ax, .slice a6 st.ar.length c6, .bool st.aA], .agg #[.int .i64 0, .int .i64 0, .int .i64 0, .int .i64 0, .int .i64 0], .bool false]) ∧ St w0 (Zg Zu 1 9 (.slice a0 st.ac.length c0) st.ac :: Zg ZG 1 3 (.slice a1 st.aa.ag.length c1) st.aa.ag :: Zg ZG 1 3 (.slice a2 st.aa.au.length c2) st.aa.au :: Zg PtrD.cells 5 24 (.slice a4 st.ak.length c4) st.ak :: Zg PtrD.cells 5 24 (.slice a6 st.ar.length c6) st.ar :: F) w') ∨
 (∃ i : Nat, i < 64 ∧ Qt st text level = i ∧ ((XI (i : Int) st.av level text = false ∧ e = .returned (.tuple #[.agg #[.slice a0 st.ac.length c0, .slice a1 st.aa.ag.length c1, .slice a2 st.aa.au.length c2, .int .i64 st.av, .slice a4 st.ak.length c4, .int .i64 st.ax, .slice a6 st.ar.length c6, .bool st.aA], .agg #[.int .i64 0, .int .i64 0, .int .i64 0, .int .i64 0, .int .i64 0], .bool false]) ∧ St w0 (Zg Zu 1 9 (.slice a0 st.ac.length c0) st.ac :: Zg ZG 1 3 (.slice a1 st.aa.ag.length c1) st.aa.ag :: Zg ZG 1 3 (.slice a2 st.aa.au.length c2) st.aa.au :: Zg PtrD.cells 5 24 (.slice a4 st.ak.length c4) st.ak :: Zg PtrD.cells 5 24 (.slice a6 st.ar.length c6) st.ar :: F) w') ∨ (XI (i : Int) st.av level text = true ∧ e = .returned (.tuple #[.agg #[.slice a0 st.ac.length c0, .slice a1 st.aa.ag.length c1, .slice a2 st.aa.au.length c2, .int .i64 st.av, .slice a4 st.ak.length c4, .int .i64 st.ax, .slice a6 st.ar.length c6, .bool st.aA], .agg #[.int .i64 (Xa (i : Int) st.av level text).aC, .int .i64 (Xa (i : Int) st.av level text).al, .int .i64 (Xa (i : Int) st.av level text).am, .int .i64 (Xa (i : Int) st.av level text).aB, .int .i64 (Xa (i : Int) st.av level text).aq], .bool true]) ∧ St w0 (Zg Zu 1 9 (.slice a0 st.ac.length c0) (st.ac.set i text) :: Zg ZG 1 3 (.slice a1 st.aa.ag.length c1) (st.aa.ag.set i (st.aa.ag.getD i 0 + 1)) :: Zg ZG 1 3 (.slice a2 st.aa.au.length c2) (st.aa.au.set i st.av) :: Zg PtrD.cells 5 24 (.slice a4 st.ak.length c4) st.ak :: Zg PtrD.cells 5 24 (.slice a6 st.ar.length c6) st.ar :: F) w')))
theorem Zhs (w0 w : World) (a0 : Option Addr) (c0 : Nat) (a1 : Option Addr) (c1 : Nat) (a2 : Option Addr) (c2 : Nat) (a4 : Option Addr) (c4 : Nat) (a6 : Option Addr) (c6 : Nat) (st : Za) (text : ByteArray) (level : Int) (F : List Asr) (hS : St w0 (Zg Zu 1 9 (.slice a0 st.ac.length c0) st.ac :: Zg ZG 1 3 (.slice a1 st.aa.ag.length c1) st.aa.ag :: Zg ZG 1 3 (.slice a2 st.aa.au.length c2) st.aa.au :: Zg PtrD.cells 5 24 (.slice a4 st.ak.length c4) st.ak :: Zg PtrD.cells 5 24 (.slice a6 st.ar.length c6) st.ar :: F) w) (h0 : st.ac.length = 64) (h1 : st.aa.ag.length = 64) (h2 : st.aa.au.length = 64) (hs : text.size ≤ 9223372036854775806) (hr : ∀ i, 0 ≤ st.aa.ag.getD i 0 ∧ st.aa.ag.getD i 0 ≤ 900) : Calls prog 149 #[sV a0 c0 a1 c1 a2 c2 a4 c4 a6 c6 st, .string text, .int .i64 level] w (ZoA w0 st text level a0 c0 a1 c1 a2 c2 a4 c4 a6 c6 F) := by
 obtain ⟨g0, rfl, _, _, _, _⟩ := hS.rowOpen 0 rfl (by omega);obtain ⟨g1, rfl, _, _, _, _⟩ := hS.rowOpen 1 rfl (by omega);obtain ⟨g2, rfl, _, _, _, _⟩ := hS.rowOpen 2 rfl (by omega);have E := Bx.mk hS;clear hS;refine QK func149 rfl ntmps149 [(0, .agg #[.slice (some ⟨g0, 0, none⟩) st.ac.length c0, .slice (some ⟨g1, 0, none⟩) st.aa.ag.length c1, .slice (some ⟨g2, 0, none⟩) st.aa.au.length c2, .int .i64 st.av, .slice a4 st.ak.length c4, .int .i64 st.ax, .slice a6 st.ar.length c6, .bool st.aA]), (1, .string text), (2, .int .i64 level)] ⟨rfl, rfl, rfl, trivial⟩ rfl ?_;refine xsr ?_;refine ybx E ?_;clear E;intro w1 b1 E;refine yal z8 E ?_;clear E;intro w2 b2 E;refine yal z5 E ?_;clear E;intro w3 b3 E;refine xr 1 rfl<|xne<|xsr<|xr 1 rfl<|xne<|xsq<|xsr<|Xf 7 rfl<|Xl 2 E rfl rfl<|xr 1 rfl<|xcs 14 rfl (fun cc1=>?_) fun cc1=>?_;refine xr 3 rfl<|xne<|xcs 17 rfl (fun cc2=>?_) fun cc2=>?_;have hls : ZbT st text level = ZaC st text := by unfold ZbT; rw [cc1, cc2]; rfl
 refine xct rfl<|xrl<|Xw 2 8 E rfl rfl<|xr 1 rfl ?_;refine ycB (ZiB _ st text _ (Za.reads_of E.o st _ _ _ _ _ _ _ _ _ _ 3 4 5 6 7 rfl rfl rfl rfl rfl) (by omega) (by omega) (by omega)) func179 E ?_;clear E;intro w4 E;refine xr 1 rfl<|xne<|xsq<|xsr<|xr 2 rfl<|xne<|xcs 22 rfl (fun cc3=>?_) fun cc3=>?_;have hws : Qt st text level = Ui st.aa := by unfold Qt; rw [if_pos (by rw [hls]; exact of_decide_eq_true cc3)]
 refine xct rfl ?_;have hws : Qt st text level = Ui st.aa := by unfold Qt; rw [if_pos (by rw [hls]; first | omega | (exact of_decide_eq_true (by assumption)))]
 refine xrl<|Xf 1 rfl<|Xw 2 2 E rfl rfl ?_;refine yem 3 1 E ?_;clear E;intro w5 b4 E;refine ycB (Zbb _ _ _ _ _ _ _ st.aa _ (St.rdOf E.o Zp 4 rfl) (by omega)) func180 E ?_;clear E;intro w6 E;refine xr 1 rfl<|xne<|xsq<|xsr<|xr 2 rfl<|xne<|xcs 28 rfl (fun cc4=>?_) fun cc4=>?_;have hneg := of_decide_eq_true cc4;refine xct rfl<|xsr<|Xw 2 8 E rfl rfl<|xy rfl (vb z5 rfl) ?_;refine yst E 1 ?_;clear E;intro w7 E;replace E:=E.nm;refine yst E 0 ?_;clear E;intro w8 E;replace E:=E.nm;refine xr 1 rfl<|xne<|xre<|xtr ?_;intro a J;refine Zx J results149 (J.resBox rfl (E.o.box 1 rfl) (by kernel_rfl)) (J.resBox rfl (E.o.box 0 rfl) (by kernel_rfl)) (J.res rfl) ?_;exact .inl ⟨by rw [hws]; exact hneg, rfl, E.o.tail.tail.tail⟩;obtain ⟨i, hi, hi64⟩ : ∃ i : Nat, Ui st.aa = i ∧ i < 64 := (Vj _).resolve_left (of_decide_eq_false cc4);intro a J;replace J : Fr 70 a [(1, .string text), (2, .int .i64 level), (3, .pointer (some ⟨b1, 0, none⟩)), (6, .pointer (some ⟨b2, 0, none⟩)), (7, .pointer (some ⟨b3, 0, none⟩)), (8, .bool false), (9, .int .i64 (i : Int)), (22, .bool true), (28, .bool false)] := by
   rw [← hi]; exact J.ls _
 rw [hi] at hws;revert a;refine xcf rfl<|xsk<|xet<|xsr<|xr 1 rfl<|Xf 3 rfl<|Xl 2 E rfl rfl<|xr 2 rfl ?_;refine ycB (Qs (i : Int) st.av level text _ (by omega)) func72 E ?_;clear E;intro w9 E;refine xr 3 rfl ?_;refine yal z5 E ?_;clear E;intro w10 b5 E;refine yst E 0 ?_;clear E;intro w11 E;replace E:=E.nm;refine xr 1 rfl<|xne<|xsq<|xsr<|xr 2 rfl<|xne<|xcs 41 rfl (fun cc5=>?_) fun cc5=>?_;have hpk : XI (i : Int) st.av level text = false := by simpa using cc5
 refine xct rfl<|xsr<|Xw 3 8 E rfl rfl<|xy rfl (vb z5 rfl) ?_;refine yst E 2 ?_;clear E;intro w12 E;replace E:=E.nm;refine yst E 1 ?_;clear E;intro w13 E;replace E:=E.nm;refine xr 1 rfl<|xne<|xre<|xtr ?_;intro a J;refine Zx J results149 (J.resBox rfl (E.o.box 2 rfl) (by kernel_rfl)) (J.resBox rfl (E.o.box 1 rfl) (by kernel_rfl)) (J.res rfl) ?_;exact .inr ⟨i, hi64, hws, .inl ⟨hpk, rfl, E.o.tail.tail.tail.tail⟩⟩;have hpk : XI (i : Int) st.av level text = true := by simpa using cc5
 refine xcf rfl<|xsk<|xet<|xsr<|Xf 0 rfl<|Xl 3 E rfl rfl<|xr 2 rfl<|xy rfl (vx 9 i 1 rfl) ?_;intro a J;refine Yi Zf rfl rfl rfl (J.ev rfl) (J.ev rfl) (by kernel_rfl) E.o 4 rfl (by omega) (z := text) rfl rfl ?_; clear E; intro w14 E; replace E := Bx.mk E;refine Zbu<|wp_seq ?_;have hrb := hr i;refine Vc 12 (by kernel_rfl) (by kernel_rfl) E.o ?_;simp only [List.take_succ_cons, List.take_zero, List.drop_succ_cons, List.drop_zero];intro w15 E;replace E := Bx.mk E;refine ZU rfl J rfl rfl (yfa 1 rfl (J.ev rfl)) ?_; clear J a; intro a J;refine ZU rfl J rfl rfl (yfa 0 rfl (J.ev rfl)) ?_; clear J a; intro a J;refine ZU rfl J rfl rfl (ylo (v := .slice (some ⟨g1, 0, none⟩) st.aa.ag.length c1) rfl (J.ev rfl) (((E.o.box 3 rfl).cell 1).trans rfl)) ?_; clear J a; intro a J;refine ZU rfl J rfl rfl (Y5 rfl (J.ev rfl)) ?_; clear J a; intro a J;refine ZU rfl J rfl rfl (yfa 1 rfl (J.ev rfl)) ?_; clear J a; intro a J;refine ZU rfl J rfl rfl (yfa 0 rfl (J.ev rfl)) ?_; clear J a; intro a J;refine ZU rfl J rfl rfl (ylo (v := .slice (some ⟨g1, 0, none⟩) st.aa.ag.length c1) rfl (J.ev rfl) (((E.o.box 3 rfl).cell 1).trans rfl)) ?_; clear J a; intro a J;refine ZU rfl J rfl rfl (Y5 rfl (J.ev rfl)) ?_; clear J a; intro a J;refine ZU rfl J rfl rfl (ZZ (e := 3) (i := i) (size := 1) rfl (J.ev rfl) (J.ev rfl) (by kernel_rfl) rfl (by omega)) ?_; clear J a; intro a J;refine ZU rfl J rfl rfl (ylo (v := .int .i64 (st.aa.ag.getD i 0)) rfl (J.ev rfl) (E.o.elem1 Zp 5 rfl (Zi (xs := st.aa.ag) (j := i) (d := 0) (by omega)) rfl)) ?_; clear J a; intro a J;refine ZU rfl J rfl rfl (Yc rfl (J.ev rfl) (J.ev rfl) (Yh (by omega))) ?_; clear J a; intro a J;refine ZU rfl J rfl rfl (ZZ (e := 3) (i := i) (size := 1) rfl (J.ev rfl) (J.ev rfl) (by kernel_rfl) rfl (by omega)) ?_; clear J a; intro a J;refine wpStill_nil ?_;refine Yi Zp rfl rfl rfl (J.ev rfl) (J.ev rfl) (by kernel_rfl) E.o 5 rfl (by omega) (z := ((st.aa.ag.getD i 0) + 1)) rfl rfl ?_; clear E; intro w16 E; replace E := Bx.mk E;revert a;refine xne<|xsr<|Xf 1 rfl<|Xf 1 rfl<|Xl 3 E rfl rfl<|xr 1 rfl<|Xf 3 rfl<|Xl 3 E rfl rfl<|xy rfl (vx 3 i 1 rfl) ?_;intro a J;refine Yi Zp rfl rfl rfl (J.ev rfl) (J.ev rfl) (by kernel_rfl) E.o 6 rfl (by omega) (z := st.av) rfl rfl ?_; clear E; intro w17 E; replace E := Bx.mk E;revert a;refine xne<|xsq ?_;refine hld [2,1] E ?_;clear E;intro w18 E M;refine Hw 0 1 8 E rfl rfl<|Hw 1 0 5 E rfl rfl ?_;refine Zl 2 ?_;refine yos 2 [2,1] M ?_;clear E M;intro w19 E M;refine Zl 3 ?_;refine yos 1 [2,1] M ?_;clear E M;intro w20 E M;refine Hp 4 E rfl ?_;refine hdn ?_;replace E := M; clear M;refine xet<|xre ?_;intro a J;refine Zx J results149 (J.resBox rfl (E.o.box 2 rfl) (by kernel_rfl)) (J.resBox rfl (E.o.box 1 rfl) (by kernel_rfl)) (J.res rfl) ?_;exact .inr ⟨i, hi64, hws, .inr ⟨hpk, rfl, E.o.tail.tail.tail.tail⟩⟩;have hws : Qt st text level = ZaC st text := by unfold Qt; rw [hls, if_neg (of_decide_eq_false cc3)]
 obtain ⟨i, hi, hi64⟩ : ∃ i : Nat, ZaC st text = i ∧ i < 64 := (Vj _).resolve_left (of_decide_eq_false cc3);intro a J;replace J : Fr 70 a [(1, .string text), (2, .int .i64 level), (3, .pointer (some ⟨b1, 0, none⟩)), (6, .pointer (some ⟨b2, 0, none⟩)), (7, .pointer (some ⟨b3, 0, none⟩)), (8, .bool false), (9, .int .i64 (i : Int)), (22, .bool false)] := by
   rw [← hi]; exact J.ls _
 rw [hi] at hws;revert a;refine xcf rfl<|xsk<|xet<|xsq<|xsr<|xr 2 rfl<|xne<|xcs 28 rfl (fun cc6=>?_) fun cc6=>?_
 exact absurd (of_decide_eq_true cc6) (by omega);refine xcf rfl<|xsk<|xet<|xsr<|xr 1 rfl<|Xf 3 rfl<|Xl 2 E rfl rfl<|xr 2 rfl ?_;refine ycB (Qs (i : Int) st.av level text _ (by omega)) func72 E ?_;clear E;intro w21 E;refine xr 3 rfl ?_;refine yal z5 E ?_;clear E;intro w22 b6 E;refine yst E 0 ?_;clear E;intro w23 E;replace E:=E.nm;refine xr 1 rfl<|xne<|xsq<|xsr<|xr 2 rfl<|xne<|xcs 41 rfl (fun cc7=>?_) fun cc7=>?_;have hpk : XI (i : Int) st.av level text = false := by simpa using cc7
 refine xct rfl<|xsr<|Xw 3 8 E rfl rfl<|xy rfl (vb z5 rfl) ?_;refine yst E 2 ?_;clear E;intro w24 E;replace E:=E.nm;refine yst E 1 ?_;clear E;intro w25 E;replace E:=E.nm;refine xr 1 rfl<|xne<|xre<|xtr ?_;intro a J;refine Zx J results149 (J.resBox rfl (E.o.box 2 rfl) (by kernel_rfl)) (J.resBox rfl (E.o.box 1 rfl) (by kernel_rfl)) (J.res rfl) ?_;exact .inr ⟨i, hi64, hws, .inl ⟨hpk, rfl, E.o.tail.tail.tail.tail⟩⟩;have hpk : XI (i : Int) st.av level text = true := by simpa using cc7
 refine xcf rfl<|xsk<|xet<|xsr<|Xf 0 rfl<|Xl 3 E rfl rfl<|xr 2 rfl<|xy rfl (vx 9 i 1 rfl) ?_;intro a J;refine Yi Zf rfl rfl rfl (J.ev rfl) (J.ev rfl) (by kernel_rfl) E.o 4 rfl (by omega) (z := text) rfl rfl ?_; clear E; intro w26 E; replace E := Bx.mk E;refine Zbu<|wp_seq ?_;have hrb := hr i;refine Vc 12 (by kernel_rfl) (by kernel_rfl) E.o ?_;simp only [List.take_succ_cons, List.take_zero, List.drop_succ_cons, List.drop_zero];intro w27 E;replace E := Bx.mk E;refine ZU rfl J rfl rfl (yfa 1 rfl (J.ev rfl)) ?_; clear J a; intro a J;refine ZU rfl J rfl rfl (yfa 0 rfl (J.ev rfl)) ?_; clear J a; intro a J;refine ZU rfl J rfl rfl (ylo (v := .slice (some ⟨g1, 0, none⟩) st.aa.ag.length c1) rfl (J.ev rfl) (((E.o.box 3 rfl).cell 1).trans rfl)) ?_; clear J a; intro a J;refine ZU rfl J rfl rfl (Y5 rfl (J.ev rfl)) ?_; clear J a; intro a J;refine ZU rfl J rfl rfl (yfa 1 rfl (J.ev rfl)) ?_; clear J a; intro a J;refine ZU rfl J rfl rfl (yfa 0 rfl (J.ev rfl)) ?_; clear J a; intro a J;refine ZU rfl J rfl rfl (ylo (v := .slice (some ⟨g1, 0, none⟩) st.aa.ag.length c1) rfl (J.ev rfl) (((E.o.box 3 rfl).cell 1).trans rfl)) ?_; clear J a; intro a J;refine ZU rfl J rfl rfl (Y5 rfl (J.ev rfl)) ?_; clear J a; intro a J;refine ZU rfl J rfl rfl (ZZ (e := 3) (i := i) (size := 1) rfl (J.ev rfl) (J.ev rfl) (by kernel_rfl) rfl (by omega)) ?_; clear J a; intro a J;refine ZU rfl J rfl rfl (ylo (v := .int .i64 (st.aa.ag.getD i 0)) rfl (J.ev rfl) (E.o.elem1 Zp 5 rfl (Zi (xs := st.aa.ag) (j := i) (d := 0) (by omega)) rfl)) ?_; clear J a; intro a J;refine ZU rfl J rfl rfl (Yc rfl (J.ev rfl) (J.ev rfl) (Yh (by omega))) ?_; clear J a; intro a J;refine ZU rfl J rfl rfl (ZZ (e := 3) (i := i) (size := 1) rfl (J.ev rfl) (J.ev rfl) (by kernel_rfl) rfl (by omega)) ?_; clear J a; intro a J;refine wpStill_nil ?_;refine Yi Zp rfl rfl rfl (J.ev rfl) (J.ev rfl) (by kernel_rfl) E.o 5 rfl (by omega) (z := ((st.aa.ag.getD i 0) + 1)) rfl rfl ?_; clear E; intro w28 E; replace E := Bx.mk E;revert a;refine xne<|xsr<|Xf 1 rfl<|Xf 1 rfl<|Xl 3 E rfl rfl<|xr 1 rfl<|Xf 3 rfl<|Xl 3 E rfl rfl<|xy rfl (vx 3 i 1 rfl) ?_;intro a J;refine Yi Zp rfl rfl rfl (J.ev rfl) (J.ev rfl) (by kernel_rfl) E.o 6 rfl (by omega) (z := st.av) rfl rfl ?_; clear E; intro w29 E; replace E := Bx.mk E;revert a;refine xne<|xsq ?_;refine hld [2,1] E ?_;clear E;intro w30 E M;refine Hw 0 1 8 E rfl rfl<|Hw 1 0 5 E rfl rfl ?_;refine Zl 2 ?_;refine yos 2 [2,1] M ?_;clear E M;intro w31 E M;refine Zl 3 ?_;refine yos 1 [2,1] M ?_;clear E M;intro w32 E M;refine Hp 4 E rfl ?_;refine hdn ?_;replace E := M; clear M;refine xet<|xre ?_;intro a J;refine Zx J results149 (J.resBox rfl (E.o.box 2 rfl) (by kernel_rfl)) (J.resBox rfl (E.o.box 1 rfl) (by kernel_rfl)) (J.res rfl) ?_;exact .inr ⟨i, hi64, hws, .inr ⟨hpk, rfl, E.o.tail.tail.tail.tail⟩⟩;have hls : ZbT st text level = -1 := by unfold ZbT; rw [cc1, cc2]; rfl
 refine xcf rfl<|xsk<|xet<|xsq<|xsr<|xr 2 rfl<|xne ?_;intro a J;replace J := J.know (k := 22) (c := true) rfl (by decide);refine Vb J rfl ?_;have hws : Qt st text level = Ui st.aa := by unfold Qt; rw [if_pos (by rw [hls]; first | omega | (exact of_decide_eq_true (by assumption)))]
 revert a;refine xrl<|Xf 1 rfl<|Xw 2 2 E rfl rfl ?_;refine yem 3 1 E ?_;clear E;intro w33 b7 E;refine ycB (Zbb _ _ _ _ _ _ _ st.aa _ (St.rdOf E.o Zp 4 rfl) (by omega)) func180 E ?_;clear E;intro w34 E;refine xr 1 rfl<|xne<|xsq<|xsr<|xr 2 rfl<|xne<|xcs 28 rfl (fun cc8=>?_) fun cc8=>?_;have hneg := of_decide_eq_true cc8;refine xct rfl<|xsr<|Xw 2 8 E rfl rfl<|xy rfl (vb z5 rfl) ?_;refine yst E 1 ?_;clear E;intro w35 E;replace E:=E.nm;refine yst E 0 ?_;clear E;intro w36 E;replace E:=E.nm;refine xr 1 rfl<|xne<|xre<|xtr ?_;intro a J;refine Zx J results149 (J.resBox rfl (E.o.box 1 rfl) (by kernel_rfl)) (J.resBox rfl (E.o.box 0 rfl) (by kernel_rfl)) (J.res rfl) ?_;exact .inl ⟨by rw [hws]; exact hneg, rfl, E.o.tail.tail.tail⟩;obtain ⟨i, hi, hi64⟩ : ∃ i : Nat, Ui st.aa = i ∧ i < 64 := (Vj _).resolve_left (of_decide_eq_false cc8);intro a J;replace J : Fr 70 a [(1, .string text), (2, .int .i64 level), (3, .pointer (some ⟨b1, 0, none⟩)), (6, .pointer (some ⟨b2, 0, none⟩)), (7, .pointer (some ⟨b3, 0, none⟩)), (8, .bool false), (9, .int .i64 (i : Int)), (22, .bool true), (28, .bool false)] := by
   rw [← hi]; exact J.ls _
 rw [hi] at hws;revert a;refine xcf rfl<|xsk<|xet<|xsr<|xr 1 rfl<|Xf 3 rfl<|Xl 2 E rfl rfl<|xr 2 rfl ?_;refine ycB (Qs (i : Int) st.av level text _ (by omega)) func72 E ?_;clear E;intro w37 E;refine xr 3 rfl ?_;refine yal z5 E ?_;clear E;intro w38 b8 E;refine yst E 0 ?_;clear E;intro w39 E;replace E:=E.nm;refine xr 1 rfl<|xne<|xsq<|xsr<|xr 2 rfl<|xne<|xcs 41 rfl (fun cc9=>?_) fun cc9=>?_;have hpk : XI (i : Int) st.av level text = false := by simpa using cc9
 refine xct rfl<|xsr<|Xw 3 8 E rfl rfl<|xy rfl (vb z5 rfl) ?_;refine yst E 2 ?_;clear E;intro w40 E;replace E:=E.nm;refine yst E 1 ?_;clear E;intro w41 E;replace E:=E.nm;refine xr 1 rfl<|xne<|xre<|xtr ?_;intro a J;refine Zx J results149 (J.resBox rfl (E.o.box 2 rfl) (by kernel_rfl)) (J.resBox rfl (E.o.box 1 rfl) (by kernel_rfl)) (J.res rfl) ?_;exact .inr ⟨i, hi64, hws, .inl ⟨hpk, rfl, E.o.tail.tail.tail.tail⟩⟩;have hpk : XI (i : Int) st.av level text = true := by simpa using cc9
 refine xcf rfl<|xsk<|xet<|xsr<|Xf 0 rfl<|Xl 3 E rfl rfl<|xr 2 rfl<|xy rfl (vx 9 i 1 rfl) ?_;intro a J;refine Yi Zf rfl rfl rfl (J.ev rfl) (J.ev rfl) (by kernel_rfl) E.o 4 rfl (by omega) (z := text) rfl rfl ?_; clear E; intro w42 E; replace E := Bx.mk E;refine Zbu<|wp_seq ?_;have hrb := hr i;refine Vc 12 (by kernel_rfl) (by kernel_rfl) E.o ?_;simp only [List.take_succ_cons, List.take_zero, List.drop_succ_cons, List.drop_zero];intro w43 E;replace E := Bx.mk E;refine ZU rfl J rfl rfl (yfa 1 rfl (J.ev rfl)) ?_; clear J a; intro a J;refine ZU rfl J rfl rfl (yfa 0 rfl (J.ev rfl)) ?_; clear J a; intro a J;refine ZU rfl J rfl rfl (ylo (v := .slice (some ⟨g1, 0, none⟩) st.aa.ag.length c1) rfl (J.ev rfl) (((E.o.box 3 rfl).cell 1).trans rfl)) ?_; clear J a; intro a J;refine ZU rfl J rfl rfl (Y5 rfl (J.ev rfl)) ?_; clear J a; intro a J;refine ZU rfl J rfl rfl (yfa 1 rfl (J.ev rfl)) ?_; clear J a; intro a J;refine ZU rfl J rfl rfl (yfa 0 rfl (J.ev rfl)) ?_; clear J a; intro a J;refine ZU rfl J rfl rfl (ylo (v := .slice (some ⟨g1, 0, none⟩) st.aa.ag.length c1) rfl (J.ev rfl) (((E.o.box 3 rfl).cell 1).trans rfl)) ?_; clear J a; intro a J;refine ZU rfl J rfl rfl (Y5 rfl (J.ev rfl)) ?_; clear J a; intro a J;refine ZU rfl J rfl rfl (ZZ (e := 3) (i := i) (size := 1) rfl (J.ev rfl) (J.ev rfl) (by kernel_rfl) rfl (by omega)) ?_; clear J a; intro a J;refine ZU rfl J rfl rfl (ylo (v := .int .i64 (st.aa.ag.getD i 0)) rfl (J.ev rfl) (E.o.elem1 Zp 5 rfl (Zi (xs := st.aa.ag) (j := i) (d := 0) (by omega)) rfl)) ?_; clear J a; intro a J;refine ZU rfl J rfl rfl (Yc rfl (J.ev rfl) (J.ev rfl) (Yh (by omega))) ?_; clear J a; intro a J;refine ZU rfl J rfl rfl (ZZ (e := 3) (i := i) (size := 1) rfl (J.ev rfl) (J.ev rfl) (by kernel_rfl) rfl (by omega)) ?_; clear J a; intro a J;refine wpStill_nil ?_;refine Yi Zp rfl rfl rfl (J.ev rfl) (J.ev rfl) (by kernel_rfl) E.o 5 rfl (by omega) (z := ((st.aa.ag.getD i 0) + 1)) rfl rfl ?_; clear E; intro w44 E; replace E := Bx.mk E;revert a;refine xne<|xsr<|Xf 1 rfl<|Xf 1 rfl<|Xl 3 E rfl rfl<|xr 1 rfl<|Xf 3 rfl<|Xl 3 E rfl rfl<|xy rfl (vx 3 i 1 rfl) ?_;intro a J;refine Yi Zp rfl rfl rfl (J.ev rfl) (J.ev rfl) (by kernel_rfl) E.o 6 rfl (by omega) (z := st.av) rfl rfl ?_; clear E; intro w45 E; replace E := Bx.mk E;revert a;refine xne<|xsq ?_;refine hld [2,1] E ?_;clear E;intro w46 E M;refine Hw 0 1 8 E rfl rfl<|Hw 1 0 5 E rfl rfl ?_;refine Zl 2 ?_;refine yos 2 [2,1] M ?_;clear E M;intro w47 E M;refine Zl 3 ?_;refine yos 1 [2,1] M ?_;clear E M;intro w48 E M;refine Hp 4 E rfl ?_;refine hdn ?_;replace E := M; clear M;refine xet<|xre ?_;intro a J;refine Zx J results149 (J.resBox rfl (E.o.box 2 rfl) (by kernel_rfl)) (J.resBox rfl (E.o.box 1 rfl) (by kernel_rfl)) (J.res rfl) ?_;exact .inr ⟨i, hi64, hws, .inr ⟨hpk, rfl, E.o.tail.tail.tail.tail⟩⟩;have hls : ZbT st text level = -1 := by unfold ZbT; rw [cc1]; rfl
 refine xr 3 rfl<|xne<|xcf rfl<|xsk<|xet<|xsq<|xsr<|xr 2 rfl<|xne ?_;intro a J;replace J := J.know (k := 22) (c := true) rfl (by decide);refine Vb J rfl ?_;have hws : Qt st text level = Ui st.aa := by unfold Qt; rw [if_pos (by rw [hls]; first | omega | (exact of_decide_eq_true (by assumption)))]
 revert a;refine xrl<|Xf 1 rfl<|Xw 2 2 E rfl rfl ?_;refine yem 3 1 E ?_;clear E;intro w49 b9 E;refine ycB (Zbb _ _ _ _ _ _ _ st.aa _ (St.rdOf E.o Zp 4 rfl) (by omega)) func180 E ?_;clear E;intro w50 E;refine xr 1 rfl<|xne<|xsq<|xsr<|xr 2 rfl<|xne<|xcs 28 rfl (fun cc10=>?_) fun cc10=>?_;have hneg := of_decide_eq_true cc10;refine xct rfl<|xsr<|Xw 2 8 E rfl rfl<|xy rfl (vb z5 rfl) ?_;refine yst E 1 ?_;clear E;intro w51 E;replace E:=E.nm;refine yst E 0 ?_;clear E;intro w52 E;replace E:=E.nm;refine xr 1 rfl<|xne<|xre<|xtr ?_;intro a J;refine Zx J results149 (J.resBox rfl (E.o.box 1 rfl) (by kernel_rfl)) (J.resBox rfl (E.o.box 0 rfl) (by kernel_rfl)) (J.res rfl) ?_;exact .inl ⟨by rw [hws]; exact hneg, rfl, E.o.tail.tail.tail⟩;obtain ⟨i, hi, hi64⟩ : ∃ i : Nat, Ui st.aa = i ∧ i < 64 := (Vj _).resolve_left (of_decide_eq_false cc10);intro a J;replace J : Fr 70 a [(1, .string text), (2, .int .i64 level), (3, .pointer (some ⟨b1, 0, none⟩)), (6, .pointer (some ⟨b2, 0, none⟩)), (7, .pointer (some ⟨b3, 0, none⟩)), (8, .bool false), (9, .int .i64 (i : Int)), (22, .bool true), (28, .bool false)] := by
   rw [← hi]; exact J.ls _
 rw [hi] at hws;revert a;refine xcf rfl<|xsk<|xet<|xsr<|xr 1 rfl<|Xf 3 rfl<|Xl 2 E rfl rfl<|xr 2 rfl ?_;refine ycB (Qs (i : Int) st.av level text _ (by omega)) func72 E ?_;clear E;intro w53 E;refine xr 3 rfl ?_;refine yal z5 E ?_;clear E;intro w54 b10 E;refine yst E 0 ?_;clear E;intro w55 E;replace E:=E.nm;refine xr 1 rfl<|xne<|xsq<|xsr<|xr 2 rfl<|xne<|xcs 41 rfl (fun cc11=>?_) fun cc11=>?_;have hpk : XI (i : Int) st.av level text = false := by simpa using cc11
 refine xct rfl<|xsr<|Xw 3 8 E rfl rfl<|xy rfl (vb z5 rfl) ?_;refine yst E 2 ?_;clear E;intro w56 E;replace E:=E.nm;refine yst E 1 ?_;clear E;intro w57 E;replace E:=E.nm;refine xr 1 rfl<|xne<|xre<|xtr ?_;intro a J;refine Zx J results149 (J.resBox rfl (E.o.box 2 rfl) (by kernel_rfl)) (J.resBox rfl (E.o.box 1 rfl) (by kernel_rfl)) (J.res rfl) ?_;exact .inr ⟨i, hi64, hws, .inl ⟨hpk, rfl, E.o.tail.tail.tail.tail⟩⟩;have hpk : XI (i : Int) st.av level text = true := by simpa using cc11
 refine xcf rfl<|xsk<|xet<|xsr<|Xf 0 rfl<|Xl 3 E rfl rfl<|xr 2 rfl<|xy rfl (vx 9 i 1 rfl) ?_;intro a J;refine Yi Zf rfl rfl rfl (J.ev rfl) (J.ev rfl) (by kernel_rfl) E.o 4 rfl (by omega) (z := text) rfl rfl ?_; clear E; intro w58 E; replace E := Bx.mk E;refine Zbu<|wp_seq ?_;have hrb := hr i;refine Vc 12 (by kernel_rfl) (by kernel_rfl) E.o ?_;simp only [List.take_succ_cons, List.take_zero, List.drop_succ_cons, List.drop_zero];intro w59 E;replace E := Bx.mk E;refine ZU rfl J rfl rfl (yfa 1 rfl (J.ev rfl)) ?_; clear J a; intro a J;refine ZU rfl J rfl rfl (yfa 0 rfl (J.ev rfl)) ?_; clear J a; intro a J;refine ZU rfl J rfl rfl (ylo (v := .slice (some ⟨g1, 0, none⟩) st.aa.ag.length c1) rfl (J.ev rfl) (((E.o.box 3 rfl).cell 1).trans rfl)) ?_; clear J a; intro a J;refine ZU rfl J rfl rfl (Y5 rfl (J.ev rfl)) ?_; clear J a; intro a J;refine ZU rfl J rfl rfl (yfa 1 rfl (J.ev rfl)) ?_; clear J a; intro a J;refine ZU rfl J rfl rfl (yfa 0 rfl (J.ev rfl)) ?_; clear J a; intro a J;refine ZU rfl J rfl rfl (ylo (v := .slice (some ⟨g1, 0, none⟩) st.aa.ag.length c1) rfl (J.ev rfl) (((E.o.box 3 rfl).cell 1).trans rfl)) ?_; clear J a; intro a J;refine ZU rfl J rfl rfl (Y5 rfl (J.ev rfl)) ?_; clear J a; intro a J;refine ZU rfl J rfl rfl (ZZ (e := 3) (i := i) (size := 1) rfl (J.ev rfl) (J.ev rfl) (by kernel_rfl) rfl (by omega)) ?_; clear J a; intro a J;refine ZU rfl J rfl rfl (ylo (v := .int .i64 (st.aa.ag.getD i 0)) rfl (J.ev rfl) (E.o.elem1 Zp 5 rfl (Zi (xs := st.aa.ag) (j := i) (d := 0) (by omega)) rfl)) ?_; clear J a; intro a J;refine ZU rfl J rfl rfl (Yc rfl (J.ev rfl) (J.ev rfl) (Yh (by omega))) ?_; clear J a; intro a J;refine ZU rfl J rfl rfl (ZZ (e := 3) (i := i) (size := 1) rfl (J.ev rfl) (J.ev rfl) (by kernel_rfl) rfl (by omega)) ?_; clear J a; intro a J;refine wpStill_nil ?_;refine Yi Zp rfl rfl rfl (J.ev rfl) (J.ev rfl) (by kernel_rfl) E.o 5 rfl (by omega) (z := ((st.aa.ag.getD i 0) + 1)) rfl rfl ?_; clear E; intro w60 E; replace E := Bx.mk E;revert a;refine xne<|xsr<|Xf 1 rfl<|Xf 1 rfl<|Xl 3 E rfl rfl<|xr 1 rfl<|Xf 3 rfl<|Xl 3 E rfl rfl<|xy rfl (vx 3 i 1 rfl) ?_;intro a J;refine Yi Zp rfl rfl rfl (J.ev rfl) (J.ev rfl) (by kernel_rfl) E.o 6 rfl (by omega) (z := st.av) rfl rfl ?_; clear E; intro w61 E; replace E := Bx.mk E;revert a;refine xne<|xsq ?_;refine hld [2,1] E ?_;clear E;intro w62 E M;refine Hw 0 1 8 E rfl rfl<|Hw 1 0 5 E rfl rfl ?_;refine Zl 2 ?_;refine yos 2 [2,1] M ?_;clear E M;intro w63 E M;refine Zl 3 ?_;refine yos 1 [2,1] M ?_;clear E M;intro w64 E M;refine Hp 4 E rfl ?_;refine hdn ?_;replace E := M; clear M;refine xet<|xre ?_;intro a J;refine Zx J results149 (J.resBox rfl (E.o.box 2 rfl) (by kernel_rfl)) (J.resBox rfl (E.o.box 1 rfl) (by kernel_rfl)) (J.res rfl) ?_;exact .inr ⟨i, hi64, hws, .inr ⟨hpk, rfl, E.o.tail.tail.tail.tail⟩⟩
theorem Zh8.all {s : Zq} (h : Zh8 s) (i : Nat) : 0 ≤ s.ag.getD i 0 ∧ s.ag.getD i 0 ≤ 900 := by
 by_cases hi : i < 64
 ·have := h.each i hi; omega
 ·rw [show s.ag.getD i 0 = 0 by simp [List.getD, List.getElem?_eq_none (show s.ag.length ≤ i by rw [h.refs]; omega)]]; omega
open Go.Lib
structure Zc where
  aD : ByteArray
  aG : Int
def Zc.zero : Zc := ⟨ByteArray.empty, 0⟩
def Zc.cells (e : Zc) : List Value := [.string e.aD, .int .i64 e.aG]
theorem Zc.cells_len (e : Zc) : e.cells.length = 2 := rfl
def Zd2 (e : Zc) : Bool := YD e.aD && inB e.aG 1 15
def Qk (l : List Zc) (i : Nat) : Bool := Zd2 (l.getD i Zc.zero) && (i == 0 || Op.bytesLess (l.getD (i - 1) Zc.zero).aD.toList (l.getD i Zc.zero).aD.toList)
def YM (l : List Zc) : Bool := decide (∀ i, i < l.length → Qk l i = true) && decide (l.length ≤ 12)
theorem US {l : List Zc} (h : YM l = true) : (∀ i, i < l.length → Qk l i = true) ∧ l.length ≤ 12 := by
 unfold YM at h;rw [Bool.and_eq_true] at h;exact ⟨of_decide_eq_true h.1, of_decide_eq_true h.2⟩
theorem Q5 {l : List Zc} (h : ∀ i, i < l.length → Qk l i = true) (hl : l.length ≤ 12) : YM l = true := by
 unfold YM; rw [decide_eq_true h, decide_eq_true hl]; rfl
theorem Zcw {l : List Zc} {i : Nat} (hi : i < l.length) (h : Qk l i = false) : YM l = false := by
 unfold YM; rw [decide_eq_false fun k => by rw [k i hi] at h; cases h]; rfl
theorem ZiC {l : List Zc} {i : Nat} (h : YD (l.getD i Zc.zero).aD = false) : Qk l i = false := by unfold Qk Zd2; rw [h]; rfl
theorem Zmd {l : List Zc} {i : Nat} (h : inB (l.getD i Zc.zero).aG 1 15 = false) : Qk l i = false := by unfold Qk Zd2; rw [h, Bool.and_false]; rfl
theorem ZiD {l : List Zc} {i : Nat} (h0 : i ≠ 0) (h : Op.bytesLess (l.getD (i - 1) Zc.zero).aD.toList (l.getD i Zc.zero).aD.toList = false) : Qk l i = false := by
 unfold Qk;rw [h, beq_eq_false_iff_ne.2 h0]; simp
theorem Zfr {l : List Zc} {i : Nat} (h1 : YD (l.getD i Zc.zero).aD = true) (h2 : inB (l.getD i Zc.zero).aG 1 15 = true) (h3 : i = 0 ∨ Op.bytesLess (l.getD (i - 1) Zc.zero).aD.toList (l.getD i Zc.zero).aD.toList = true) : Qk l i = true := by
 unfold Qk Zd2;rw [h1, h2];rcases h3 with h3 | h3
 ·rw [h3]; rfl
 ·rw [h3]; simp
theorem Zht {l : List Zc} {i : Nat} (h : Qk l i = true) : YD (l.getD i Zc.zero).aD = true ∧ 1 ≤ (l.getD i Zc.zero).aG ∧ (l.getD i Zc.zero).aG ≤ 15 ∧ (i = 0 ∨ Op.bytesLess (l.getD (i - 1) Zc.zero).aD.toList (l.getD i Zc.zero).aD.toList = true) := by
 unfold Qk Zd2 at h;simp only [Bool.and_eq_true, Bool.or_eq_true, beq_iff_eq] at h;have := Zs h.1.2;exact ⟨h.1.1, this.1, this.2, h.2⟩
theorem Xe {l : List Zc} (h : YM l = true) {e : Zc} (he : e ∈ l) : YD e.aD = true ∧ 1 ≤ e.aG ∧ e.aG ≤ 15 := by
 obtain ⟨i, hi, rfl⟩ := List.getElem_of_mem he;have := Zht ((US h).1 i hi);rw [show l.getD i Zc.zero = l[i] by rw [getD_eq_getElem?_getD, List.getElem?_eq_getElem hi]; rfl] at this;exact ⟨this.1, this.2.1, this.2.2.1⟩
def Zd3 (e : Zc) : List UInt8 := e.aD.data.toList ++ 61 :: (ZI e.aG).data.toList
def J4 (l : List Zc) : List UInt8 := l.flatMap fun e => Zd3 e ++ [59]
def QA (l : List Zc) : ByteArray := ⟨(J4 l).toArray⟩
theorem Zbc (l : List Zc) : (QA l).data.toList = J4 l := rfl
theorem J5 (e : Zc) (l : List Zc) : J4 (e :: l) = Zd3 e ++ 59 :: J4 l := by unfold J4; rw [flatMap_cons, List.append_assoc]; rfl
theorem Zkp (a b : List Zc) : J4 (a ++ b) = J4 a ++ J4 b := by unfold J4; rw [List.flatMap_append]
structure IsEnts (s : ByteArray) (l : List Zc) : Prop where
  ok : YM l = true
  is : QA l = s
theorem ZbX {s : ByteArray} (h : YD s = true) (c : UInt8) (hc : Jq c = false) : ∀ x ∈ s.data.toList, x ≠ c := by
 unfold YD at h;rw [Bool.and_eq_true] at h;intro x hx e;have := List.all_eq_true.1 h.2 x hx;rw [e, hc] at this; cases this
theorem Zcx {s : ByteArray} (h : YD s = true) : 1 ≤ s.size ∧ s.size ≤ 4 := by
 unfold YD at h;rw [Bool.and_eq_true] at h;have := Zs h.1
 omega
theorem ZoB (n : Int) (c : UInt8) (hc : digitVal c = none) : c ∉ (ZI n).data.toList := fun h => Zf8 c hc n c h rfl
theorem Zd4 {e : Zc} (h : YD e.aD = true) : (59 : UInt8) ∉ Zd3 e := by
 unfold Zd3;intro hm;rcases mem_append.1 hm with hm | hm
 ·exact ZbX h 59 (by decide) 59 hm rfl
 ·rcases mem_cons.1 hm with hm | hm
  ·cases hm
  ·exact ZoB _ 59 (by decide) hm
theorem Zgj {c : UInt8} : ∀ {a b x y : List UInt8}, c ∉ a → c ∉ x → a ++ c :: b = x ++ c :: y → a = x ∧ b = y
 | [], b, [], y, _, _, h => by simpa using h
 | [], b, z :: x, y, _, hx, h => by
  simp only [nil_append, List.cons_append, List.cons.injEq] at h;exact absurd (h.1 ▸ mem_cons_self ..) hx
 | z :: a, b, [], y, ha, _, h => by
  simp only [nil_append, List.cons_append, List.cons.injEq] at h;exact absurd (h.1 ▸ mem_cons_self ..) ha
 | z :: a, b, u :: x, y, ha, hx, h => by
  simp only [List.cons_append, List.cons.injEq] at h;obtain ⟨e1, e2⟩ := Zgj (fun hm => ha (mem_cons_of_mem _ hm)) (fun hm => hx (mem_cons_of_mem _ hm)) h.2;exact ⟨by rw [h.1, e1], e2⟩
theorem Zme {m n : Int} (hm : 0 ≤ m ∧ m ≤ 999999999) (hn : 0 ≤ n ∧ n ≤ 999999999) (h : ZI m = ZI n) : m = n := by
 have h1 := Z5 hm;rw [h, Z5 hn] at h1;have := Option.some.inj h1
 omega
theorem J6 {a b : ByteArray} (h : a.data.toList = b.data.toList) : a = b := by
 cases a; cases b
 simp only [ByteArray.mk.injEq];exact Array.toList_inj.1 h
theorem Zmf {e f : Zc} (h1 : YD e.aD = true) (h2 : YD f.aD = true) (i1 : 0 ≤ e.aG ∧ e.aG ≤ 999999999) (i2 : 0 ≤ f.aG ∧ f.aG ≤ 999999999) (h : Zd3 e = Zd3 f) : e = f := by
 obtain ⟨a, b⟩ := Zgj (fun hm => ZbX h1 61 (by decide) 61 hm rfl) (fun hm => ZbX h2 61 (by decide) 61 hm rfl) h
 cases e; cases f
 simp only at *;rw [J6 a, Zme i1 i2 (J6 b)]
theorem Zfs : ∀ {l m : List Zc}, (∀ e ∈ l, YD e.aD = true ∧ 1 ≤ e.aG ∧ e.aG ≤ 15) → (∀ e ∈ m, YD e.aD = true ∧ 1 ≤ e.aG ∧ e.aG ≤ 15) → J4 l = J4 m → l = m
 | [], [], _, _, _ => rfl
 | [], e :: m, _, _, h => by rw [J5] at h; simp [J4] at h
 | e :: l, [], _, _, h => by rw [J5] at h; simp [J4] at h
 | e :: l, f :: m, hl, hm, h => by
  have a := hl e (mem_cons_self ..);have b := hm f (mem_cons_self ..);rw [J5, J5] at h;obtain ⟨e1, e2⟩ := Zgj (Zd4 a.1) (Zd4 b.1) h;rw [Zmf a.1 b.1 (by omega) (by omega) e1, Zfs (fun x hx => hl x (mem_cons_of_mem _ hx)) (fun x hx => hm x (mem_cons_of_mem _ hx)) e2]
theorem IsEnts.one {s : ByteArray} {l m : List Zc} (h : IsEnts s l) (k : IsEnts s m) : l = m :=
 Zfs (fun _ he => Xe h.ok he) (fun _ he => Xe k.ok he) (congrArg (fun s : ByteArray => s.data.toList) (h.is.trans k.is.symm))
open Classical in
noncomputable def entsG (s : ByteArray) : Option (List Zc) := if h : ∃ l, IsEnts s l then some h.choose else none
theorem Zcy {s : ByteArray} {l : List Zc} (h : IsEnts s l) : entsG s = some l := by
 have he : ∃ l, IsEnts s l := ⟨l, h⟩;unfold entsG;rw [dif_pos he, he.choose_spec.one h]
theorem ZbY {s : ByteArray} (h : ∀ l, IsEnts s l → False) : entsG s = none := by
 unfold entsG;rw [dif_neg fun ⟨l, hl⟩ => h l hl]
theorem Zmg {s : ByteArray} {l : List Zc} (h : entsG s = some l) : IsEnts s l := by
 by_cases he : ∃ m, IsEnts s m
 ·obtain ⟨m, hm⟩ := he
  rw [Zcy hm] at h;obtain rfl := Option.some.inj h;exact hm
 ·rw [ZbY fun m hm => he ⟨m, hm⟩] at h; cases h
noncomputable def blobL (st : Za) : List PtrD → Option ByteArray
 | [] => some ByteArray.empty
 | p :: r => bif (Zn st p).size == 0 || (!r.isEmpty && (Zn st p).size != 128) then none else (blobL st r).map (Zn st p ++ ·)
theorem Zhu {st : Za} {p : PtrD} {r : List PtrD} (h : (Zn st p).size = 0 ∨ r ≠ [] ∧ (Zn st p).size ≠ 128) : blobL st (p :: r) = none := by
 show (bif _ then _ else _) = _;have : ((Zn st p).size == 0 || (!r.isEmpty && (Zn st p).size != 128)) = true := by
  rcases h with h | ⟨h, h2⟩
  ·rw [h]; rfl
  ·cases r with
   | nil => exact absurd rfl h
   | cons a b => simp [h2]
 rw [this]; rfl
theorem Zft {st : Za} {p : PtrD} {r : List PtrD} (h : (Zn st p).size ≠ 0) (h2 : r = [] ∨ (Zn st p).size = 128) : blobL st (p :: r) = (blobL st r).map (Zn st p ++ ·) := by
 show (bif _ then _ else _) = _;have : ((Zn st p).size == 0 || (!r.isEmpty && (Zn st p).size != 128)) = false := by
  rw [beq_eq_false_iff_ne.2 h, Bool.false_or];rcases h2 with h2 | h2
  ·rw [h2]; rfl
  ·rw [h2]; simp
 rw [this]; rfl
theorem Zfu {st : Za} {xs : List PtrD} {i : Nat} {b : ByteArray} (h : blobL st xs = (blobL st (xs.drop i)).map (b ++ ·)) (hi : i < xs.length) (h1 : (Zn st (xs.getD i PtrD.zero)).size ≠ 0) (h2 : i + 1 = xs.length ∨ (Zn st (xs.getD i PtrD.zero)).size = 128) : blobL st xs = (blobL st (xs.drop (i + 1))).map ((b ++ Zn st (xs.getD i PtrD.zero)) ++ ·) := by
 rw [h, Zd1 hi, Zft h1 (by
  rcases h2 with h2 | h2
  ·exact .inl (List.drop_of_length_le (by omega))
  ·exact .inr h2), Zl8]
theorem Zfv {st : Za} {xs : List PtrD} {i : Nat} {b : ByteArray} (h : blobL st xs = (blobL st (xs.drop i)).map (b ++ ·)) (hi : i < xs.length) (h1 : (Zn st (xs.getD i PtrD.zero)).size = 0 ∨ i + 1 < xs.length ∧ (Zn st (xs.getD i PtrD.zero)).size ≠ 128) : blobL st xs = none := by
 rw [h, Zd1 hi, Zhu (by
  rcases h1 with h1 | ⟨h1, h2⟩
  ·exact .inl h1
  ·exact .inr ⟨fun e => by have := congrArg length e; rw [List.length_drop, length_nil] at this; omega, h2⟩)]; rfl
theorem Zmh {st : Za} {xs : List PtrD} {i : Nat} {b : ByteArray} (h : blobL st xs = (blobL st (xs.drop i)).map (b ++ ·)) (hi : ¬ i < xs.length) : blobL st xs = some b := by
 rw [h, List.drop_of_length_le (by omega)];show some (b ++ ByteArray.empty) = some b;rw [show b ++ ByteArray.empty = b from J6 (by rw [ZB]; exact append_nil _)]
theorem ZiE {st : Za} {xs : List PtrD} : blobL st xs = (blobL st (xs.drop 0)).map ((⟨#[]⟩ : ByteArray) ++ ·) := by
 rw [List.drop_zero]
 cases blobL st xs with
 | none => rfl
 | some b => exact congrArg some (J6 (by rw [ZB]; rfl)).symm
theorem Zd5 {st : Za} (hr : ∀ p, (Zn st p).size ≤ 128) : ∀ {l : List PtrD} {t : ByteArray}, blobL st l = some t → t.size ≤ 128 * l.length
 | [], t, h => by obtain rfl := Option.some.inj h; exact Nat.zero_le _
 | p :: r, t, h => by
  by_cases hc : (Zn st p).size = 0 ∨ r ≠ [] ∧ (Zn st p).size ≠ 128
  ·rw [Zhu hc] at h; cases h
  ·have h1 : (Zn st p).size ≠ 0 := fun e => hc (.inl e)
   have h2 : r = [] ∨ (Zn st p).size = 128 := by
    by_cases hn : r = []
    ·exact .inl hn
    ·by_cases h3 : (Zn st p).size = 128
     ·exact .inr h3
     ·exact absurd (.inr ⟨hn, h3⟩) hc
   rw [Zft h1 h2] at h
   cases hb : blobL st r with
   | none => rw [hb] at h; cases h
   | some u =>
    rw [hb] at h;obtain rfl := Option.some.inj h;have := Zd5 hr hb;have := hr p;rw [Zk, length_cons]; omega
noncomputable def V3 (st : Za) (n : Zb) : Option (List Zc) := (leavesF st n.ah).bind fun l => (blobL st l).bind fun s => bif (s.size : Int) == n.am then entsG s else none
theorem Zfw {st : Za} {n : Zb} (h : leavesF st n.ah = none) : V3 st n = none := by unfold V3; rw [h]; rfl
theorem Zfx {st : Za} {n : Zb} {l : List PtrD} (h : leavesF st n.ah = some l) (hb : blobL st l = none) : V3 st n = none := by unfold V3; rw [h]; simp only [Option.bind_some]; rw [hb]; rfl
theorem Zfy {st : Za} {n : Zb} {l : List PtrD} {s : ByteArray} (h : leavesF st n.ah = some l) (hb : blobL st l = some s) (hs : (s.size : Int) ≠ n.am) : V3 st n = none := by
 unfold V3; rw [h]; simp only [Option.bind_some]; rw [hb];show (bif _ then _ else _) = _;rw [beq_eq_false_iff_ne.2 hs]; rfl
theorem Zd6 {st : Za} {n : Zb} {l : List PtrD} {s : ByteArray} (h : leavesF st n.ah = some l) (hb : blobL st l = some s) (hs : (s.size : Int) = n.am) : V3 st n = entsG s := by
 unfold V3; rw [h]; simp only [Option.bind_some]; rw [hb];show (bif _ then _ else _) = _;rw [beq_iff_eq.2 hs]; rfl
theorem Zjx {st : Za} {n : Zb} {es : List Zc} (h : V3 st n = some es) : YM es = true := by
 cases hl : leavesF st n.ah with
 | none => rw [Zfw hl] at h; cases h
 | some l =>
  cases hb : blobL st l with
  | none => rw [Zfx hl hb] at h; cases h
  | some s =>
   by_cases hs : (s.size : Int) = n.am
   ·rw [Zd6 hl hb hs] at h; exact (Zmg h).ok
   ·rw [Zfy hl hb hs] at h; cases h
end Go.Proofs.YtfhdmfcfcgbgeaaGreatDoor
namespace Go.Proofs.YtfhdmfcfcgbgeaaGreatDoor.LinkP
set_option maxHeartbeats 2000000
open Go.Proofs.Tryz
open _root_.ByteArray (size_extract)
open List (append_nil flatMap_cons flatMap_nil getD_eq_getElem?_getD length length_append length_cons length_map length_nil length_set length_take map_cons mem_append mem_cons mem_cons_of_mem mem_cons_self mem_singleton nil_append replicate)
set_option maxHeartbeats 1000000
set_option maxRecDepth 100000
set_option linter.unusedVariables false
set_option linter.unusedSimpArgs false
set_option maxHeartbeats 1000000
set_option maxRecDepth 100000
section
variable (kd : Nat → List Nat) (isF valid : Nat → Bool)
open Classical in
variable {kd isF valid}
end
section
variable {α : Type} {id : α → Nat} {ch : α → List α} {kd : Nat → List Nat} {isF valid : Nat → Bool} {lk : Nat → Nat}
theorem YK {l : List Nat} {i : Nat} (h : i < l.length) : l.getD i 0 ∈ l := by
 rw [getD_eq_getElem?_getD, List.getElem?_eq_getElem h]; exact List.getElem_mem _
end
end Go.Proofs.YtfhdmfcfcgbgeaaGreatDoor.LinkP
namespace Go.Proofs.YtfhdmfcfcgbgeaaGreatDoor
set_option maxHeartbeats 2000000
open Go.Proofs.Tryz
open _root_.ByteArray (size_extract)
open List (append_nil flatMap_cons flatMap_nil getD_eq_getElem?_getD length length_append length_cons length_map length_nil length_set length_take map_cons mem_append mem_cons mem_cons_of_mem mem_cons_self mem_singleton nil_append replicate)
set_option linter.unusedVariables false
set_option linter.unusedSimpArgs false
set_option maxHeartbeats 1000000
set_option maxRecDepth 100000
open Go.RowKit
structure Zpj where
  aE : ByteArray
  aG : Int
noncomputable def entK (st : Za) (ns : List (Option Zb)) (k : Nat) : List Zc := match ns.getD k none with
 | none => []
 | some n => bif n.aj == 1 then [] else (V3 st n).getD []
def Zgk (ns : List (Option Zb)) (k : Nat) : Bool := (ns.getD k none).isSome
open Classical in
open Classical in
theorem Zfz {st : Za} {ns : List (Option Zb)} {k : Nat} (h : ns.getD k none = none) : entK st ns k = [] := by unfold entK; rw [h]
theorem ZfA {st : Za} {ns : List (Option Zb)} {k : Nat} {n : Zb} (h : ns.getD k none = some n) (hf : (n.aj == 1) = true) : entK st ns k = [] := by unfold entK; rw [h]; show (bif _ then _ else _) = _; rw [hf]; rfl
theorem Zhv {st : Za} {ns : List (Option Zb)} {k : Nat} {n : Zb} {es : List Zc} (h : ns.getD k none = some n) (hf : (n.aj == 1) = false) (hd : V3 st n = some es) : entK st ns k = es := by unfold entK; rw [h]; show (bif _ then _ else _) = _; rw [hf, hd]; rfl
theorem Zhw {ns : List (Option Zb)} {k : Nat} {n : Zb} (h : ns.getD k none = some n) : Zgk ns k = true := by unfold Zgk; rw [h]; rfl
theorem Zkq {ns : List (Option Zb)} {k : Nat} (h : Zgk ns k = true) : k < ns.length := by
 by_cases hk : k < ns.length
 ·exact hk
 ·unfold Zgk at h
  rw [getD_eq_getElem?_getD, List.getElem?_eq_none (by omega)] at h; cases h
theorem Zgl {st : Za} {ns : List (Option Zb)} (k : Nat) : YM (entK st ns k) = true := by
 cases hn : ns.getD k none with
 | none => rw [Zfz hn]; exact Q5 (fun i hi => absurd hi (Nat.not_lt_zero _)) (Nat.zero_le _)
 | some n =>
  cases hf : (n.aj == 1) with
  | true => rw [ZfA hn hf]; exact Q5 (fun i hi => absurd hi (Nat.not_lt_zero _)) (Nat.zero_le _)
  | false =>
   cases hd : V3 st n with
   | some es => rw [Zhv hn hf hd]; exact Zjx hd
   | none =>
    unfold entK; rw [hn]; show YM (bif _ then _ else _) = _; rw [hf, hd];exact Q5 (fun i hi => absurd hi (Nat.not_lt_zero _)) (Nat.zero_le _)
structure ZbZ (ns : List (Option Zb)) : Prop where
  len : ns.length ≤ 16
  ok : ∀ k n, ns.getD k none = some n → n.ok = true
theorem Zbd {st : Za} {t : Ze} {ns : List (Option Zb)} (h : ZeM st t = some ns) : ZbZ ns := by
 obtain ⟨l, hl, ht, hlen⟩ := Zgi h;refine ⟨by have := UR hl; omega, fun k n hk => ?_⟩;have hkl : k < l.length := by
  have := Zkq (Zhw hk)
  omega
 have := Zdq ht k hkl;rcases this with ⟨_, h2⟩ | ⟨_, m, h2, h3, _⟩
 ·rw [hk] at h2; cases h2
 ·rw [hk] at h2
  obtain rfl := Option.some.inj h2;exact (ZdT h3).1
open Classical in
theorem Zmi (a b : ByteArray) : (a ++ b).data.toList = a.data.toList ++ b.data.toList := by simp
theorem Zkr (s : ByteArray) : QM [] s = ⟨#[]⟩ := rfl
theorem Zbe (nms : List ByteArray) (s : ByteArray) : (QM nms s).data.toList = Go.Lib.join (nms.map (·.data.toList)) s.data.toList := by unfold QM; simp
theorem Zks (x s : ByteArray) : QM [x] s = x := by
 apply Yx
 rw [Zbe];exact Go.Lib.join_one _ _
theorem ZiF (x : ByteArray) (r : List ByteArray) (y s : ByteArray) : QM ((x :: r) ++ [y]) s = (QM (x :: r) s ++ s) ++ y := by
 apply Yx
 rw [Zmi, Zmi, Zbe, Zbe, List.map_append, map_cons, List.cons_append, Go.Lib.join_cons, Go.Lib.join_cons];unfold Go.Lib.joinTail;rw [List.map_append, List.flatten_append];simp [List.append_assoc]
theorem Znw {st : Za} {ns : List (Option Zb)} {k : Nat} {e : Zc} (he : e ∈ entK st ns k) : ((e.aG.toNat : Nat) : Int) = e.aG ∧ e.aD.size ≠ 0 ∧ e.aD.size ≤ 4 := by
 have h := Xe (Zgl (st := st) (ns := ns) k) he;have h2 := Zcx h.1
 omega
end Go.Proofs.YtfhdmfcfcgbgeaaGreatDoor
