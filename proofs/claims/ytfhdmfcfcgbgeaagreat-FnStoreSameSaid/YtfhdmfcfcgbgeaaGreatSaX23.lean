/- A part of the proof in YtfhdmfcfcgbgeaaGreatSaX30. -/
import Derived.Shelf.Strings.Prefix
import Derived.Shelf.Strings.Repeat
import Derived.Test.YtfhdmfcfcgbgeaaGreatSaX22
namespace Go.Proofs.YtfhdmfcfcgbgeaaGreat
set_option maxHeartbeats 2000000
open Go.Proofs.Tryz
open _root_.ByteArray (size_extract)
open List (append_nil cons_append drop_zero flatMap_cons flatMap_nil getD_eq_getElem?_getD length_append length_cons length_map length_nil length_set length_take map_cons mem_append mem_cons mem_cons_of_mem mem_cons_self mem_singleton nil_append replicate take_zero)
set_option linter.unusedVariables false
set_option linter.unusedSimpArgs false
set_option maxHeartbeats 1000000
set_option maxRecDepth 100000
open Go.RowKit
def Zm (x : List PtrD) : List PtrD := x ++ replicate (16 - x.length) PtrD.zero
theorem UK {x : List PtrD} (h : x.length ≤ 16) : (Zm x).length = 16 := by unfold Zm; rw [length_append, List.length_replicate]; omega
theorem ZbM {x : List PtrD} (h : ∀ p ∈ x, p.ok = true) : ∀ p ∈ Zm x, p.ok = true := fun p hp => by
 rcases mem_append.1 hp with hp | hp
 ·exact h p hp
 ·rw [List.eq_of_mem_replicate hp]; rfl
theorem Ze9 (a0 : Option Addr) (c0 : Nat) (a1 : Option Addr) (c1 : Nat) (a2 : Option Addr) (c2 : Nat) (a4 : Option Addr) (c4 : Nat) (a6 : Option Addr) (c6 : Nat) (st : Za) (t : Ze) {x : List PtrD} (hx : downL (kidsS st) (depthN t.am) [t.ai] = some x) (hdep : t.az = ((depthN t.am : Nat) : Int)) (hxl : x.length ≤ 16) (w0 : World) (hR : Rd Zx 1 w0 a0 st.af.length st.af) (hrow : Xu st) : Calls prog 159 #[.agg #[.slice a0 st.af.length c0, .slice a1 st.aa.ac.length c1, .slice a2 st.aa.ah.length c2, .int .i64 st.ak, .slice a4 st.ag.length c4, .int .i64 st.aw, .slice a6 st.aj.length c6, .bool st.ax], .agg #[.int .i64 t.ai.aA, .int .i64 t.ai.al, .int .i64 t.ai.av, .int .i64 t.ai.aC, .int .i64 t.ai.ar, .int .i64 t.az, .int .i64 t.am]] w0 fun e w' => ∃ ao cp, e = .returned (.tuple #[.slice ao x.length cp, .bool true]) ∧ St w0 [Zf PtrD.cells 5 31 (.slice ao x.length cp) x] w' := by
 refine (ZbK a0 c0 a1 c1 a2 c2 a4 c4 a6 c6 st t hdep w0 hR hrow).mono ?_;rintro e w' (⟨l, h, ao, cp, he, hs⟩ | ⟨h, _⟩)
 ·rw [hx] at h
  obtain rfl := Option.some.inj h;exact ⟨ao, cp, he, hs⟩
 ·rw [hx] at h; cases h
theorem Ve (a0 : Option Addr) (c0 : Nat) (a1 : Option Addr) (c1 : Nat) (a2 : Option Addr) (c2 : Nat) (a4 : Option Addr) (c4 : Nat) (a6 : Option Addr) (c6 : Nat) (st : Za) (t : Ze) {x : List PtrD} (hx : downL (kidsS st) (depthN t.am) [t.ai] = some x) (hdep : t.az = ((depthN t.am : Nat) : Int)) (hxl : x.length ≤ 16) (w0 : World) (hR : Rd Zx 1 w0 a0 st.af.length st.af) (hrow : Xu st) : Calls prog 145 #[sV a0 c0 a1 c1 a2 c2 a4 c4 a6 c6 st, tV t] w0 fun e w' => ∃ ao cp, e = .returned (.slice ao (Zm x).length cp) ∧ St w0 [Zf PtrD.cells 5 31 (.slice ao (Zm x).length cp) (Zm x)] w' := by
 have HR := Bx.mk hR; clear hR;have E := Bx.mk (St.start w0);refine ent func145 ntmps145 ?_;refine xsr ?_;refine ybx E ?_;clear E;intro w1 b1 E;refine ybx E ?_;clear E;intro w2 b2 E;refine xr 1 rfl<|xne<|xsr<|Xw 1 8 E rfl rfl<|Xw 0 7 E rfl rfl ?_;refine yc (Ze9 a0 c0 a1 c1 a2 c2 a4 c4 a6 c6 st t hx hdep hxl _ (HR.out.below E.o.bel) hrow) func159 ?_;rintro _ w3 ⟨ao, cp, rfl, hs⟩;refine ⟨_, rfl, ?_⟩; replace E := E.ad hs;clear hs;refine xr 5 rfl<|xne<|xsr ?_;refine yem 31 5 E ?_;clear E;intro w4 b3 E;refine xr 1 rfl ?_;replace E := Bx.mk (E.o.nilRow PtrD.cells 5 31 (some ⟨b3, 0, none⟩));intro a J;refine Xr rfl J rfl rfl rfl (J.ev rfl) (J.ev rfl) Xj PtrD.cells_len E.o 0 (xs := []) rfl (ys := x) (St.rdOf E.o PtrD.cells_len 1 rfl) (Zz _) (by unfold maxLen; (try simp only [length_append, length_cons, length_nil, nil_append, length_map, List.length_replicate]); omega) (by (try simp only [length_append, length_cons, length_nil, nil_append, length_map, List.length_replicate]); omega) ?_; clear J E a; intro ao5 cp6 w5 a J E; replace E := Bx.mk E;revert a;refine xr 1 rfl<|xy rfl (vn 31 5 rfl)<|xy rfl (fun a J=>ZH (r := ((16 - x.length : Nat) : Int)) rfl (J.ev rfl) (J.ev rfl) ((Z5 (by omega)).trans (by omega))) ?_;refine yc (Um (16 - x.length) (by omega) _) func160 ?_;rintro _ w6 ⟨ao7, cp7, rfl, hs⟩;refine ⟨_, rfl, ?_⟩;replace E := E.ad hs;clear hs;intro a J;refine Xr rfl J rfl rfl rfl (J.ev rfl) (J.ev rfl) Xj PtrD.cells_len E.o 1 (xs := ([]) ++ x) rfl (ys := replicate (16 - x.length) PtrD.zero) (St.rdN E.o PtrD.cells_len 0 rfl) (Zz _) (by unfold maxLen; (try simp only [length_append, length_cons, length_nil, nil_append, length_map, List.length_replicate]); omega) (by (try simp only [length_append, length_cons, length_nil, nil_append, length_map, List.length_replicate]); omega) ?_; clear J E a; intro ao8 cp9 w7 a J E; replace E := Bx.mk E;revert a;refine xr 1 rfl<|xne<|xre<|xb1 results145 rfl ?_;have hwl : ([] ++ x).length + (replicate (16 - x.length) PtrD.zero).length = (Zm x).length := (length_append ..).symm; rw [hwl] at E ⊢;exact ⟨_, _, rfl, (E.o.erS [4,3,2,0])⟩
theorem Zee {st : Za} {l : List PtrD} {k : Nat} (h : k < l.length) : (l.take k).map (Zn st) ++ [Zn st (l.getD k PtrD.zero)] = (l.take (k + 1)).map (Zn st) := by
 rw [List.take_succ_eq_append_getElem h, List.map_append, getD_eq_getElem?_getD, List.getElem?_eq_getElem h]; rfl
def ZgA (st : Za) (t : Ze) (x : List PtrD) : List ByteArray := ((Zm x).take t.am.toNat).map (Zn st)
theorem ZhF (a0 : Option Addr) (c0 : Nat) (a1 : Option Addr) (c1 : Nat) (a2 : Option Addr) (c2 : Nat) (a4 : Option Addr) (c4 : Nat) (a6 : Option Addr) (c6 : Nat) (st : Za) (t : Ze) {x : List PtrD} (hx : downL (kidsS st) (depthN t.am) [t.ai] = some x) (hdep : t.az = ((depthN t.am : Nat) : Int)) (hxl : x.length ≤ 16) (hxok : ∀ p ∈ x, p.ok = true) (hm : 0 ≤ t.am ∧ t.am ≤ 16) (w0 : World) (hR : Rd Zx 1 w0 a0 st.af.length st.af) (hrow : Xu st) : Calls prog 130 #[sV a0 c0 a1 c1 a2 c2 a4 c4 a6 c6 st, tV t] w0 fun e w' => ∃ ao cp, e = .returned (.slice ao (ZgA st t x).length cp) ∧ St w0 [Zf Zx 1 9 (.slice ao (ZgA st t x).length cp) (ZgA st t x)] w' := by
 have HR := Bx.mk hR; clear hR;have E := Bx.mk (St.start w0);refine ent func130 ntmps130 ?_;refine xsr ?_;refine ybx E ?_;clear E;intro w1 b1 E;refine ybx E ?_;clear E;intro w2 b2 E;refine xr 1 rfl<|xne<|xsr ?_;refine yem 9 1 E ?_;clear E;intro w3 b3 E;refine xr 1 rfl<|xne<|xsr<|Xw 1 8 E rfl rfl<|Xw 0 7 E rfl rfl ?_;refine yc (Ve a0 c0 a1 c1 a2 c2 a4 c4 a6 c6 st t hx hdep hxl _ (HR.out.below E.o.bel) hrow) func145 ?_;rintro _ w4 ⟨ao4, cp4, rfl, hs⟩;refine ⟨_, rfl, ?_⟩;replace E := E.ad hs;clear hs;refine xr 1 rfl<|xne<|xsq<|xsq ?_;have hwl := UK hxl; have hwok := ZbM hxok;refine xrl<|xr 1 rfl<|xne<|xbl ?_;replace E := Bx.mk (E.o.nilRow Zx 1 9 (some ⟨b3, 0, none⟩));intro a J;refine Zt (ι := Nat) (fun k a w => ∃ (ao : Option Addr) (cp : Nat) (xs : List ByteArray), (k ≤ t.am.toNat ∧ xs = ((Zm x).take k).map (Zn st)) ∧ Fr 34 a [(2, .pointer (some ⟨b1, 0, none⟩)), (3, .pointer (some ⟨b2, 0, none⟩)), (6, .slice ao4 ((Zm x).length) cp4), (5, .slice ao xs.length cp), (7, .int .i64 (k : Int))] ∧ St w0 ([Zf Zx 1 9 (.slice ao xs.length cp) xs, Zf PtrD.cells 5 31 (.slice ao4 ((Zm x).length) cp4) (Zm x), boxA b2 7 81 (tV t), boxA b1 8 29 (sV a0 c0 a1 c1 a2 c2 a4 c4 a6 c6 st)]) w) (fun k => t.am.toNat - k) 0 ⟨_, _, [], ⟨Nat.zero_le _, rfl⟩, J.ls _, E.o⟩ ?_;clear J E; clear a;rintro k a w5 ⟨ao, cp, xs, ⟨hk, hq⟩, J, E⟩;replace E := Bx.mk E;have hxl : xs.length = k := by rw [hq]; simp; omega
 revert a;refine xsq<|xsr<|xr 1 rfl<|Xf 6 rfl<|Xl 2 E rfl rfl<|xr 1 rfl<|xne<|xcd 17 rfl (fun _ dcc1=>?_) fun _ dcc1=>?_
 refine xct rfl<|xsk<|xet<|xsq<|xbl<|xsq ?_;obtain ⟨g5, rfl, _, _, _, _⟩ := E.o.rowOpen 1 rfl (by omega);intro a J;refine Z1 (by kernel_rfl) (by kernel_rfl) E.o ?_;revert a;refine Qw 3 8 rfl rfl<|xqr 2 rfl<|xq rfl (fun E=>vx 31 k 5 rfl)<|xq rfl (fun E a J=>ylr (cs := pL ((Zm x).getD k PtrD.zero)) rfl (J.ev rfl) (E.elem PtrD.cells_len 1 rfl (Zg (xs := Zm x) (j := k) (d := PtrD.zero) (by omega)))) ?_;refine yq (fun _ E => (JY a0 c0 a1 c1 a2 c2 a4 c4 a6 c6 st ((Zm x).getD k PtrD.zero) _ (HR.out.below E.bel) hrow (hwok _ (Yo (by omega))))) func44 ?_;refine xqr 5 rfl ?_;intro a J;refine wpQuiet_nil ?_; intro w6 E; replace E := Bx.mk E;revert a;refine xet<|xrl<|xr 2 rfl ?_;refine ybs Zx 9 1 [Zn st ((Zm x).getD k PtrD.zero)] E ?_;clear E;intro b6 w7 E;refine yap Zbz Zo E 1 (St.rdN E.o Zo 0 rfl) (Y0 _) ?_;clear E;intro ao7 cp8 w8 E;refine xr 1 rfl<|xni<|xeb<|xet<|xrl<|xr 1 rfl<|xy rfl (vad rfl)<|xr 1 rfl<|xne ?_;have hz : xs.length + ([Zn st ((Zm x).getD k PtrD.zero)]).length = (xs ++ ([Zn st ((Zm x).getD k PtrD.zero)])).length := (length_append ..).symm;intro a J;rw [hz] at E J;have hnext : xs ++ ([Zn st ((Zm x).getD k PtrD.zero)]) = ((Zm x).take (k + 1)).map (Zn st) := by rw [hq]; exact Zee (by omega)
 replace E:=E.pks [4,4,4,4];exact ⟨k + 1, ⟨_, _, xs ++ ([Zn st ((Zm x).getD k PtrD.zero)]), ⟨by omega, hnext⟩, J.less _ ⟨rfl, rfl, rfl, rfl, rfl, trivial⟩, (E.o.erase 4)⟩, (by omega)⟩;refine xcf rfl<|xex<|xtx<|xtx<|xbh<|xet<|xsr<|xr 2 rfl<|xne<|xre<|xb1 results130 rfl ?_;obtain rfl : k = t.am.toNat := by omega
 subst hq;exact ⟨_, _, rfl, (E.o.erS [3,2,1])⟩
theorem ZhG (size : Int) (k : Nat) (w0 : World) (hk : k ≤ 16) (hs : 12 * (k : Int) ≤ size ∧ size ≤ 1000000) : Calls prog 157 #[.int .i64 size, .int .i64 (k : Int)] w0 fun e w' => e = .returned (.int .i64 (longN size k : Int)) ∧ Below w0.heap.size w0 w' := by
 have E := Bx.mk (St.start w0);refine ent func157 ntmps157 ?_;refine xsr<|xr 1 rfl<|xne<|xsr<|xr 2 rfl<|xy rfl (fun a J=>Xb rfl (J.ev rfl) (J.ev rfl) (Z5 (by omega)))<|xy rfl (fun a J=>ZH rfl (J.ev rfl) (J.ev rfl) (Z5 (by omega)))<|xy rfl (fun a J=>Zjp rfl (J.ev rfl) (J.ev rfl))<|xr 1 rfl<|xne<|xre<|xb1 results157 rfl ?_;exact ⟨by show Ending.returned (.int .i64 _) = Ending.returned (.int .i64 _); unfold longN; congr 2; omega, E.o.bel⟩
theorem ZiI (s : ByteArray) (w0 : World) (hs : s.size ≤ 1000000) : Calls prog 158 #[.string s] w0 fun e w' => e = .returned (.string (Zdq s)) ∧ Below w0.heap.size w0 w' := by
 have E := Bx.mk (St.start w0);refine ent func158 ntmps158 ?_;refine xsr<|xr 1 rfl<|xne<|xsq<|xbl ?_;intro a J;refine Zt (ι := ByteArray) (fun r a w => (Zdq r = Zdq s ∧ r.size ≤ 1000000) ∧ Fr 20 a [(0, .string r)] ∧ St w0 ([]) w) (fun r => r.size) s ⟨⟨rfl, hs⟩, J.ls _, E.o⟩ ?_;clear J E; clear a;rintro r a w1 ⟨⟨hcz, hrs⟩, J, E⟩;replace E := Bx.mk E;revert a;refine xsq<|xsr<|xr 1 rfl<|xy rfl (fun a J=>ZO rfl (J.ev rfl) (by kernel_rfl))<|xr 2 rfl<|xcd 6 rfl (fun _ dcc1=>?_) fun _ dcc1=>?_
 refine xr 2 rfl<|xy rfl (fun a J=>ZO rfl (J.ev rfl) (by kernel_rfl))<|xy rfl (fun a J=>ZH (r := ((r.size - 1 : Nat) : Int)) rfl (J.ev rfl) (J.ev rfl) ((Z5 (by omega)).trans (by omega)))<|xy rfl (fun a J=>Yu (i := (r.size - 1)) rfl (J.ev rfl) (J.ev rfl) (by kernel_rfl) (by omega) (by omega))<|xr 2 rfl<|xne<|xce 13 rfl (fun cc2 dcc2=>?_) fun cc2 dcc2=>?_;refine xct rfl<|xsk<|xet<|xbl<|xrl<|xr 2 rfl<|xy rfl (fun a J=>ZO rfl (J.ev rfl) (by kernel_rfl))<|xy rfl (fun a J=>ZH (r := ((r.size - 1 : Nat) : Int)) rfl (J.ev rfl) (J.ev rfl) ((Z5 (by omega)).trans (by omega)))<|xy rfl (fun a J=>U9 (k := (r.size - 1)) rfl (J.ev rfl) (J.ev rfl) (by kernel_rfl) (by omega) (by omega))<|xr 1 rfl<|xni<|xeb<|xet ?_;have hlz : VX r = true := by rw [ZfC (by omega)]; exact cc2
 have hes : (r.extract 0 (r.size - 1)).size = r.size - 1 := by rw [size_extract]; omega
 intro a J;exact ⟨(r.extract 0 (r.size - 1)), ⟨⟨(Zko hlz).trans hcz, by omega⟩, J.less _ ⟨rfl, trivial⟩, E.o⟩, (by omega)⟩;refine xcf rfl<|xex<|xtx<|xtx<|xbh<|xet<|xsr<|xr 2 rfl<|xne<|xre<|xb1 results158 rfl ?_;have hlz : VX r = false := by rw [ZfC (by omega)]; exact cc2
 exact ⟨by rw [← hcz, ZfD hlz], E.o.bel⟩;refine xr 7 rfl<|xne<|xcf rfl<|xex<|xtx<|xtx<|xbh<|xet<|xsr<|xr 2 rfl<|xne<|xre<|xb1 results158 rfl ?_;have hlz : VX r = false := Zkn (by omega);exact ⟨by rw [← hcz, ZfD hlz], E.o.bel⟩
structure TreeX (st : Za) (t : Ze) (x l : List PtrD) : Prop where
  dn : downL (kidsS st) (depthN t.am) [t.ai] = some x
  dep : t.az = ((depthN t.am : Nat) : Int)
  x16 : x.length ≤ 16
  xok : ∀ p ∈ x, p.ok = true
  lv : leavesF st t = some l
  len : l.length = t.am.toNat
  many : 0 ≤ t.am ∧ t.am ≤ 16
  tk : (Zm x).take t.am.toNat = l
theorem treeX {st : Za} {t : Ze} {l : List PtrD} (h0 : 0 ≤ st.ak) (h : leavesF st t = some l) : ∃ x, TreeX st t x l := by
 obtain ⟨x, ht, hd, hlb, hlx, hxl, hl⟩ := ZaS h;unfold topB at ht;simp only [Bool.and_eq_true, beq_iff_eq, decide_eq_true_eq] at ht;have hin := Zw ht.1;have hy := Vc (st := st) (n := depthN t.am) (l := [t.ai]) (fun p hp => by rw [mem_singleton.1 hp]; exact ht.2.2) h0;have hp4 := Zl1 (YG t.am);have hx16 : x.length ≤ 16 := by rw [hxl]; exact hp4
 refine ⟨x, hy.1.trans hd, ht.2.1, hx16, fun p hp => (hy.2 x hd p hp).1, h, hl, hin, ?_⟩;have hle : t.am.toNat ≤ x.length := by
  have := congrArg List.length hlx;rw [hl, length_take] at this
  omega
 rw [hlx];unfold Zm;rw [List.take_append_of_le_length hle]
theorem Zct (a0 : Option Addr) (c0 : Nat) (a1 : Option Addr) (c1 : Nat) (a2 : Option Addr) (c2 : Nat) (a4 : Option Addr) (c4 : Nat) (a6 : Option Addr) (c6 : Nat) (st : Za) (t : Ze) {x l : List PtrD} (X : TreeX st t x l) (w0 : World) (hR : Rd Zx 1 w0 a0 st.af.length st.af) (hrow : Xu st) : Calls prog 130 #[.agg #[.slice a0 st.af.length c0, .slice a1 st.aa.ac.length c1, .slice a2 st.aa.ah.length c2, .int .i64 st.ak, .slice a4 st.ag.length c4, .int .i64 st.aw, .slice a6 st.aj.length c6, .bool st.ax], .agg #[.int .i64 t.ai.aA, .int .i64 t.ai.al, .int .i64 t.ai.av, .int .i64 t.ai.aC, .int .i64 t.ai.ar, .int .i64 t.az, .int .i64 t.am]] w0 fun e w' => ∃ ao cp, e = .returned (.slice ao (l.map (Zn st)).length cp) ∧ St w0 [Zf Zx 1 9 (.slice ao (l.map (Zn st)).length cp) (l.map (Zn st))] w' := by
 have h := ZhF a0 c0 a1 c1 a2 c2 a4 c4 a6 c6 st t X.dn X.dep X.x16 X.xok X.many w0 hR hrow;unfold ZgA at h;rw [X.tk] at h;exact h
theorem ZjC {st : Za} {l : List PtrD} {k : Nat} (h : k < l.length) : (l.map (Zn st))[k]? = some (Zn st (l.getD k PtrD.zero)) := by
 rw [List.getElem?_map, getD_eq_getElem?_getD, List.getElem?_eq_getElem h]; rfl
theorem Zl5 {st : Za} {t : Ze} (h0 : 0 ≤ st.ak) (h : okS st t = true) : ∃ l, leavesF st t = some l := by
 rw [ZlP h0] at h;exact Option.isSome_iff_exists.1 h
theorem Zl6 {st : Za} {t : Ze} (h0 : 0 ≤ st.ak) (h : okS st t = false) : leavesF st t = none := by
 rw [ZlP h0] at h
 cases hl : leavesF st t with
 | none => rfl
 | some l => exfalso; have h2 : (leavesF st t).isSome = false := h; rw [hl] at h2; cases h2
theorem ZaZ {n : Zc} (h : n.ok = true) (hk : (n.aq == 1) = true) : 0 ≤ n.av ∧ n.av ≤ 192 ∧ n.au.am = (n.av + 11) / 12 := by
 have a := Zc.ok_is h;have s := a.small;have k1 : n.aq = 1 := beq_iff_eq.1 hk;have hz := s.size; have hi := s.is; have hm := a.tmany;rw [k1, ZiF] at hz hi;rw [k1] at hm
 omega
def ZbN (st : Za) (text : ByteArray) (level : Int) : Int := if st.ax && (level == 0) then Zax st text else -1
def Qr (st : Za) (text : ByteArray) (level : Int) : Int := if ZbN st text level < 0 then Ui st.aa else ZbN st text level
def Za.mayW (st : Za) (text : ByteArray) (level : Int) : Bool := st.ok && (inB text.size 1 128 && (inB level 0 2 && decide (writeAt st text level < 64)))
def Za.wrote (st : Za) (text : ByteArray) (level : Int) : Za := if st.mayW text level then st.putAt (writeAt st text level) (st.af.set (writeAt st text level) text) else Za.zero
def Za.wptr (st : Za) (text : ByteArray) (level : Int) : PtrD := if st.mayW text level then Yf (writeAt st text level : Nat) st.ak level text else PtrD.zero
theorem X8 {a b : ByteArray} (h : (a.toList == b.toList) = true) : a = b := by
 have h := eq_of_beq h;rw [ByteArray.toList_eq, ByteArray.toList_eq] at h;exact ByteArray.ext (Array.toList_inj.1 h)
section
variable {st : Za} {text : ByteArray} {level : Int}
theorem XO (h : (st.ok && (inB text.size 1 128 && inB level 0 2)) = false) : st.mayW text level = false ∧ st.wrote text level = Za.zero ∧ st.wptr text level = PtrD.zero := by
 have hm : st.mayW text level = false := by
  unfold Za.mayW
  cases h1 : st.ok <;> cases h2 : inB text.size 1 128 <;> cases h3 : inB level 0 2 <;> simp_all
 exact ⟨hm, by unfold Za.wrote; rw [hm]; rfl, by unfold Za.wptr; rw [hm]; rfl⟩
theorem ZbO (h : YA st text level < 64) : XA st text (YA st text level) = true := by
 unfold YA at h ⊢
 split
 ·rename_i hs
  rw [if_pos hs] at h;exact ZdN _ 64 0 (by omega)
 ·rename_i hs
  rw [if_neg hs] at h
  omega
theorem Zef (hok : st.ok = true) (hsz : inB text.size 1 128 = true) (hlv : inB level 0 2 = true) {i : Nat} (hi : i < 64) (hw : writeAt st text level = i) :
  st.mayW text level = true ∧ st.wrote text level = st.putAt i (st.af.set i text) ∧ st.wptr text level = Yf (i : Int) st.ak level text ∧ YK (i : Int) st.ak level text = true ∧ (YA st text level < 64 → st.af.set i text = st.af) := by
 have hO := Za.ok_spec hok;have hP := Zp.ok_spec hO.space;have hm : st.mayW text level = true := by unfold Za.mayW; rw [hok, hsz, hlv, hw]; simp [hi]
 have h8 : 8 ≤ i := by
  by_cases hl : YA st text level < 64
  ·have := ZbO hl
   have e : YA st text level = i := by unfold writeAt at hw; rw [if_pos hl] at hw; exact hw
   rw [e] at this;unfold XA at this;simp only [Bool.and_eq_true, decide_eq_true_eq] at this;rcases Nat.lt_or_ge i 8 with h | h
   ·have := (hP.each i hi).2.2.2.2 h; omega
   ·exact h
  ·unfold writeAt at hw
   rw [if_neg hl] at hw;have := Qc (Xg st) 56 8
   omega
 refine ⟨hm, by unfold Za.wrote; rw [hm, hw]; rfl, by unfold Za.wptr; rw [hm, hw]; rfl, ?_, fun hl => ?_⟩
 ·have := Zlt text
  have h1 := hO.txg;have h2 := Zw hsz;have h3 := Zw hlv;unfold YK PtrD.ok Yf;rw [hsz];dsimp only;rw [XF (by omega) (by omega), XF (by omega) (by omega), XF (by omega) (by omega), XF (by omega) (by omega)]
  simp
 ·have := ZbO hl
  have e : YA st text level = i := by unfold writeAt at hw; rw [if_pos hl] at hw; exact hw
  rw [e] at this;unfold XA at this;simp only [Bool.and_eq_true] at this;have h1 := X8 this.1.1.2;have hl2 : i < st.af.length := by rw [hO.rows]; exact hi
  refine List.ext_getElem (by simp) fun j h2 h3 => ?_;rw [List.getElem_set]
  split
  ·rename_i e2
   subst e2;rw [← h1]; simp [List.getD, hl2]
  ·rfl
theorem Zoc (hok : st.ok = true) (hsz : inB text.size 1 128 = true) : (Qr st text level < 0 → writeAt st text level = 64) ∧ ∀ i : Nat, Qr st text level = i → writeAt st text level = i := by
 have hO := Za.ok_spec hok;have hP := Zp.ok_spec hO.space;have hs := Zw hsz;have hlike : Zy (XA st text) 64 0 = Zy (Uh st text) 56 8 := by
  have h0 : Zy (XA st text) (8 + 56) 0 = Zy (XA st text) 56 (0 + 8) := Zhi 8 56 0 fun i _ h2 => by
   have := (hP.each i (by omega)).2.2.2.2 (by omega);unfold XA;rw [this]; rfl
  refine h0.trans (Zbp 56 8 fun i h1 h2 => ?_);have hi : i < 64 := by omega
  have he := hP.each i hi;have hr := UC hO.each hi;unfold XA Uh
  cases h3 : ((st.af.getD i ByteArray.empty).toList == text.toList) with
  | false => cases decide (0 < st.aa.ac.getD i 0) <;> rfl
  | true =>
   have h4 := X8 h3;unfold YZ at hr;simp only [Bool.and_eq_true, beq_iff_eq, decide_eq_true_eq, Bool.not_eq_true', bne_iff_ne] at hr;have h5 : st.aa.ac.getD i 0 ≠ 0 := fun h0 => by
    have hz : (st.af.getD i ByteArray.empty).size ≠ 0 := by rw [h4]; omega
    simp_all
   have h6 : decide (0 < st.aa.ac.getD i 0) = true := decide_eq_true (by omega);rw [h6]; rfl
 have hfree : Zy (Xg st) 56 8 = Zy (VG st.aa) 56 8 := Zbp 56 8 fun i h1 h2 => by
  have he := hP.each i (by omega);unfold Xg VG
  by_cases h0 : st.aa.ac.getD i 0 = 0
  ·rw [h0]; rfl
  ·have h1 : decide (0 < st.aa.ac.getD i 0) = true := decide_eq_true (by omega)
   rw [h1, beq_eq_false_iff_ne.2 h0]; rfl
 have hb1 := Qc (Uh st text) 56 8;have hb2 := Qc (VG st.aa) 56 8;unfold Qr writeAt ZbN YA Zax Ui;rw [hlike, hfree]
 cases hsm : (st.ax && (level == 0)) with
 | true =>
  simp only [if_true];unfold Zgm
  constructor
  ·split <;> split <;> (try split) <;> omega
  ·intro i; split <;> split <;> (try split) <;> omega
 | false =>
  simp only [Bool.false_eq_true, if_false];unfold Zgm
  constructor
  ·simp; split <;> omega
  ·intro i; simp; split <;> omega
end
theorem Zin.ok {s : Zp} (h : Zin s) : s.ok = true := by
 unfold Zp.ok;simp only [Bool.and_eq_true, beq_iff_eq];refine ⟨⟨h.refs, h.last⟩, ?_⟩;unfold Qa;rw [List.all_eq_true];intro i hi;have hi := List.mem_range.1 hi;have e := h.each i hi;rw [V8 hi];unfold XG;simp only [Bool.and_eq_true, Bool.or_eq_true, decide_eq_true_eq, bne_iff_ne, beq_iff_eq, Bool.not_eq_true', decide_eq_false_iff_not];refine ⟨XF (by omega) (by omega), XF (by omega) (by omega), ?_, ?_⟩
 ·by_cases h0 : s.ac.getD i 0 = 0
  ·exact .inr (e.2.2.2.1 h0)
  ·exact .inl h0
 ·by_cases h8 : i < 8
  ·exact .inl (by rw [e.2.2.2.2 h8]; exact Int.le_refl 0)
  ·exact .inr (by omega)
theorem Ze4.ok {st : Za} (h : Ze4 st) : st.ok = true := by
 unfold Za.ok;simp only [Bool.and_eq_true, beq_iff_eq];exact ⟨h.rows, h.space, XF h.txg.1 h.txg.2, XF h.keep.1 h.keep.2, h.each, h.gone, h.dead, h.owed⟩
theorem QT {st : Za} : Xq st 64 = true ↔ ∀ i, i < 64 → (st.af.getD i ByteArray.empty).size ≤ 128 ∧ ((st.af.getD i ByteArray.empty).size = 0 ↔ st.aa.ac.getD i 0 = 0) ∧ st.aa.ah.getD i 0 ≤ st.ak := by
 constructor
 ·intro h i hi
  have := UC h hi;unfold YZ at this;simp only [Bool.and_eq_true, decide_eq_true_eq, beq_iff_eq] at this;refine ⟨this.1, ?_, this.2.2⟩;have h2 := this.2.1
  constructor
  ·intro e; rw [beq_iff_eq.2 e] at h2; exact beq_iff_eq.1 h2.symm
  ·intro e; rw [beq_iff_eq.2 e] at h2; exact beq_iff_eq.1 h2
 ·intro h
  unfold Xq;rw [List.all_eq_true];intro i hi;obtain ⟨a, b, c⟩ := h i (List.mem_range.1 hi);unfold YZ;simp only [Bool.and_eq_true, decide_eq_true_eq, beq_iff_eq];refine ⟨a, ?_, c⟩;rw [Bool.eq_iff_iff];simp only [beq_iff_eq]; exact b
theorem YH {refs : List Int} {ps : List PtrD} : XH refs ps = true ↔ ∀ i, i < 64 → (cnt ps i : Int) ≤ refs.getD i 0 := by
 unfold XH;rw [List.all_eq_true];exact ⟨fun h i hi => by have := h i (List.mem_range.2 hi); simpa using this, fun h i hi => by have := h i (List.mem_range.1 hi); simpa using this⟩
theorem YN (p : PtrD) (ps : List PtrD) (i : Nat) : cnt (p :: ps) i = (if p.aA = (i : Int) then 1 else 0) + cnt ps i := by
 rw [show p :: ps = [p] ++ ps from rfl, Zk]
 congr 1
 unfold cnt
 by_cases h : p.aA = (i : Int) <;> simp [h]
theorem Q0 (i : Nat) : cnt [] i = 0 := rfl
theorem ZjD {ps : List PtrD} {q : PtrD} {i : Nat} (hq : q ∈ ps) (h : q.aA = (i : Int)) : 1 ≤ cnt ps i := by
 unfold cnt;exact List.length_pos_of_mem (List.mem_filter.2 ⟨hq, by simp [h]⟩)
theorem YU {α : Type} {xs : List α} {i j : Nat} {x d : α} (hi : i < xs.length) : (xs.set i x).getD j d = if i = j then x else xs.getD j d := by
 by_cases h : i = j
 ·subst h; rw [if_pos rfl, getD_eq_getElem?_getD, List.getElem?_set_self hi]; rfl
 ·rw [if_neg h, getD_eq_getElem?_getD, getD_eq_getElem?_getD, List.getElem?_set_ne h]
structure Inv (st : Za) (X : List PtrD) : Prop where
  ok : st.ok = true
  owes : ∀ i : Nat, 8 ≤ i → i < 64 → ((cnt X i + cnt (st.ag ++ st.aj) i : Nat) : Int) ≤ st.aa.ac.getD i 0
structure ZY (st st' : Za) (X : List PtrD) : Prop where
  row : ∀ q ∈ X, q.ok = true → q.hole = false → Yk st' q = Yk st q
  txg : st'.ak = st.ak
  keep : st'.aw = st.aw
  same : st'.ax = st.ax
theorem ZY.refl (st : Za) (X : List PtrD) : ZY st st X := ⟨fun _ _ _ _ => rfl, rfl, rfl, rfl⟩
theorem ZY.trans {a b c : Za} {X : List PtrD} (h : ZY a b X) (k : ZY b c X) : ZY a c X :=
 ⟨fun q hq ho hh => (k.row q hq ho hh).trans (h.row q hq ho hh), k.txg.trans h.txg, k.keep.trans h.keep, k.same.trans h.same⟩
theorem ZY.mono {a b : Za} {X Y : List PtrD} (h : ZY a b X) (hs : ∀ q ∈ Y, q ∈ X) : ZY a b Y := ⟨fun q hq => h.row q (hs q hq), h.txg, h.keep, h.same⟩
theorem Inv.mono {st : Za} {X Y : List PtrD} (h : Inv st X) (hc : ∀ i : Nat, 8 ≤ i → i < 64 → cnt Y i ≤ cnt X i) : Inv st Y :=
 ⟨h.ok, fun i h8 hi => by have := h.owes i h8 hi; have := hc i h8 hi; omega⟩
theorem ZiJ {p : PtrD} (h : p.ok = true) (hh : p.hole = false) : 8 ≤ p.aA ∧ p.aA ≤ 63 := by
 unfold PtrD.ok at h;rw [hh, Bool.false_or] at h;simp only [Bool.and_eq_true] at h;exact Zw h.1.1.1.1
theorem Za0 {q : PtrD} (ho : q.ok = true) (hh : q.hole = false) : ∃ i : Nat, 8 ≤ i ∧ i < 64 ∧ q.aA = (i : Int) := by
 obtain ⟨h1, h2⟩ := ZiJ ho hh;exact ⟨q.aA.toNat, by omega, by omega, by omega⟩
theorem Inv.live {st : Za} {X : List PtrD} (h : Inv st X) {q : PtrD} (hq : q ∈ X) {i : Nat} (h8 : 8 ≤ i) (hi : i < 64) (e : q.aA = (i : Int)) : 1 ≤ st.aa.ac.getD i 0 := by
 have := h.owes i h8 hi;have := ZjD hq e
 omega
theorem QH {st : Za} {q : PtrD} {i : Nat} (e : q.aA = (i : Int)) : Yk st q = st.af.getD i ByteArray.empty := by unfold Yk; rw [e, Int.toNat_natCast]
section
variable {st : Za} {X : List PtrD} {text : ByteArray} {level : Int} {i : Nat}
theorem Zcu (hok : st.ok = true) (hi : i < 64) (hw : writeAt st text level = i) : 8 ≤ i ∧ (st.aa.ac.getD i 0 = 0 ∧ st.aa.ah.getD i 0 = 0 ∨ 0 < st.aa.ac.getD i 0 ∧ st.af.getD i ByteArray.empty = text ∧ st.aa.ac.getD i 0 < st.ak) := by
 have hO := Za.ok_spec hok;have hP := Zp.ok_spec hO.space
 by_cases hl : YA st text level < 64
 ·have := ZbO hl
  have e : YA st text level = i := by unfold writeAt at hw; rw [if_pos hl] at hw; exact hw
  rw [e] at this;unfold XA at this;simp only [Bool.and_eq_true, decide_eq_true_eq] at this;refine ⟨?_, .inr ⟨this.1.1.1, X8 this.1.1.2, this.2⟩⟩;rcases Nat.lt_or_ge i 8 with h | h
  ·have := (hP.each i hi).2.2.2.2 h; omega
  ·exact h
 ·unfold writeAt at hw
  rw [if_neg hl] at hw;have hb := Qc (Xg st) 56 8;have hh := ZdN (Xg st) 56 8 (by omega);rw [hw] at hh;unfold Xg at hh;have h0 := (hP.each i hi).1;rw [Bool.not_eq_true'] at hh;have hz : st.aa.ac.getD i 0 = 0 := by have := of_decide_eq_false hh; omega
  exact ⟨by omega, .inl ⟨hz, (hP.each i hi).2.2.2.1 hz⟩⟩
theorem Inv.write (h : Inv st X) (hsz : inB text.size 1 128 = true) (hlv : inB level 0 2 = true) (hi : i < 64) (hw : writeAt st text level = i) :
  Inv (st.putAt i (st.af.set i text)) (Yf (i : Int) st.ak level text :: X) ∧ ZY st (st.putAt i (st.af.set i text)) X ∧ Yk (st.putAt i (st.af.set i text)) (Yf (i : Int) st.ak level text) = text := by
 obtain ⟨h8, hrow⟩ := Zcu h.ok hi hw;have hO := Za.ok_spec h.ok;have hP := Zp.ok_spec hO.space;have hs := Zw hsz;have hl0 : i < st.af.length := by rw [hO.rows]; exact hi
 have hl1 : i < st.aa.ac.length := by rw [hP.refs]; exact hi
 have hl2 : i < st.aa.ah.length := by rw [hP.last]; exact hi
 have hrefs : ∀ j : Nat, (st.putAt i (st.af.set i text)).aa.ac.getD j 0 = if i = j then st.aa.ac.getD i 0 + 1 else st.aa.ac.getD j 0 := fun j => YU hl1
 have hlast : ∀ j : Nat, (st.putAt i (st.af.set i text)).aa.ah.getD j 0 = if i = j then st.ak else st.aa.ah.getD j 0 := fun j => YU hl2
 have hrows : ∀ j : Nat, (st.putAt i (st.af.set i text)).af.getD j ByteArray.empty = if i = j then text else st.af.getD j ByteArray.empty := fun j => YU hl0
 have hEi := hP.each i hi;have hlt : st.aa.ac.getD i 0 < st.ak := by rcases hrow with ⟨e, _⟩ | ⟨_, _, e⟩ <;> have := hO.txg <;> omega
 have hO2 : Ze4 (st.putAt i (st.af.set i text)) := by
  refine ⟨by show (st.af.set i text).length = 64; rw [length_set]; exact hO.rows, Zin.ok ⟨?_, ?_, ?_⟩, hO.txg, hO.keep, ?_, hO.gone, hO.dead, ?_⟩
  ·show (st.aa.ac.set _ _).length = 64; rw [length_set]; exact hP.refs
  ·show (st.aa.ah.set _ _).length = 64; rw [length_set]; exact hP.last
  ·intro j hj
   rw [hrefs, hlast];have := hP.each j hj;have := hO.txg
   split
   ·rename_i e; subst e
    refine ⟨by omega, by omega, by omega, by omega, by omega⟩
   ·exact hP.each j hj
  ·rw [QT]
   intro j hj;rw [hrows, hrefs, hlast];have := QT.1 hO.each j hj
   split
   ·rename_i e; subst e
    exact ⟨by omega, ⟨by omega, by omega⟩, Int.le_refl _⟩
   ·exact this
  ·rw [YH]
   intro j hj;rw [hrefs];have := YH.1 hO.owed j hj;show (cnt (st.ag ++ st.aj) j : Int) ≤ _
   split
   ·rename_i e; subst e; omega
   ·exact this
 refine ⟨⟨hO2.ok, fun j h8j hj => ?_⟩, ⟨fun q hq ho hh => ?_, rfl, rfl, rfl⟩, ?_⟩
 ·rw [hrefs, YN]
  have := h.owes j h8j hj;show ((((if (i : Int) = (j : Int) then 1 else 0) + cnt X j + cnt (st.ag ++ st.aj) j : Nat)) : Int) ≤ _
  by_cases e : i = j
  ·subst e; rw [if_pos rfl, if_pos rfl]; omega
  ·rw [if_neg (by omega), if_neg e]; omega
 ·obtain ⟨j, h8j, hj, e⟩ := Za0 ho hh
  rw [QH e, QH e, hrows]
  by_cases ej : i = j
  ·subst ej
   rw [if_pos rfl];rcases hrow with ⟨e0, _⟩ | ⟨_, e1, _⟩
   ·have := h.live hq h8j hj e; omega
   ·exact e1.symm
  ·rw [if_neg ej]
 ·rw [QH (i := i) rfl, hrows, if_pos rfl]
theorem Inv.free {p : PtrD} (h : Inv st (p :: X)) (ho : p.ok = true) : Inv (st.free p) X ∧ ZY st (st.free p) X := by
 have hO := Za.ok_spec h.ok;have hP := Zp.ok_spec hO.space
 cases hh : p.hole with
 | true =>
  rw [Zcp hh];exact ⟨h.mono fun i _ _ => by rw [YN]; omega, ZY.refl _ _⟩
 | false =>
  obtain ⟨i, h8, hi, e⟩ := Za0 ho hh;have hown := h.owes i h8 hi;rw [YN, if_pos e] at hown;have hone : ∀ j : Nat, cnt (p :: X) j = (if i = j then 1 else 0) + cnt X j := fun j => by
   rw [YN, e]; congr 1; by_cases ej : i = j
   ·rw [if_pos ej, if_pos (by omega)]
   ·rw [if_neg ej, if_neg (by omega)]
  by_cases h1 : p.al ≤ st.aw
  ·rw [Zcq hh h1]
   have hc : ∀ j, cnt (st.ag ++ (st.aj ++ [p])) j = cnt (st.ag ++ st.aj) j + (if i = j then 1 else 0) := fun j => by
    rw [← List.append_assoc, VC, e]; congr 1; by_cases ej : i = j
    ·rw [if_pos ej, if_pos (by omega)]
    ·rw [if_neg ej, if_neg (by omega)]
   refine ⟨⟨Ze4.ok ⟨hO.rows, hO.space, hO.txg, hO.keep, hO.each, hO.gone, ?_, ?_⟩, fun j h8j hj => ?_⟩, ⟨fun _ _ _ _ => rfl, rfl, rfl, rfl⟩⟩
   ·show (st.aj ++ [p]).all _ = true
    rw [List.all_append, hO.dead, Bool.true_and, List.all_cons, List.all_nil, Bool.and_true];unfold Yc; rw [ho, hh, decide_eq_true h1]; rfl
   ·rw [YH]; intro j hj
    show (cnt (st.ag ++ (st.aj ++ [p])) j : Int) ≤ _;rw [hc];have := YH.1 hO.owed j hj
    split
    ·rename_i ej; subst ej; show _ ≤ st.aa.ac.getD i 0; omega
    ·exact this
   ·show (((cnt X j + cnt (st.ag ++ (st.aj ++ [p])) j : Nat)) : Int) ≤ st.aa.ac.getD j 0
    have := h.owes j h8j hj;rw [hone] at this; rw [hc]; omega
  ·by_cases h2 : p.al < st.ak
   ·rw [Zcr hh h1 h2]
    have hc : ∀ j, cnt ((st.ag ++ [p]) ++ st.aj) j = cnt (st.ag ++ st.aj) j + (if i = j then 1 else 0) := fun j => by
     rw [Zk, VC, Zk, e]
     by_cases ej : i = j
     ·rw [if_pos ej, if_pos (by omega)]; omega
     ·rw [if_neg ej, if_neg (by omega)]; omega
    refine ⟨⟨Ze4.ok ⟨hO.rows, hO.space, hO.txg, hO.keep, hO.each, ?_, hO.dead, ?_⟩, fun j h8j hj => ?_⟩, ⟨fun _ _ _ _ => rfl, rfl, rfl, rfl⟩⟩
    ·show (st.ag ++ [p]).all _ = true
     rw [List.all_append, List.all_cons, List.all_nil, Bool.and_true, Bool.and_eq_true];refine ⟨hO.gone, ?_⟩;unfold Yc; rw [ho, hh, decide_eq_true (by show p.al ≤ st.ak - 1; omega)]; rfl
    ·rw [YH]; intro j hj
     show (cnt ((st.ag ++ [p]) ++ st.aj) j : Int) ≤ _;rw [hc];have := YH.1 hO.owed j hj
     split
     ·rename_i ej; subst ej; show _ ≤ st.aa.ac.getD i 0; omega
     ·exact this
    ·show (((cnt X j + cnt ((st.ag ++ [p]) ++ st.aj) j : Nat)) : Int) ≤ st.aa.ac.getD j 0
     have := h.owes j h8j hj;rw [hone] at this; rw [hc]; omega
   ·rw [Zam hh h1 h2, e, Int.toNat_natCast]
    have hl0 : i < st.af.length := by rw [hO.rows]; exact hi
    have hl1 : i < st.aa.ac.length := by rw [hP.refs]; exact hi
    have hl2 : i < st.aa.ah.length := by rw [hP.last]; exact hi
    have hrefs : ∀ j : Nat, (st.aa.give i).ac.getD j 0 = if i = j then st.aa.ac.getD i 0 - 1 else st.aa.ac.getD j 0 := fun j => YU hl1
    have hlast : ∀ j : Nat, (st.aa.give i).ah.getD j 0 = if i = j ∧ st.aa.ac.getD i 0 - 1 = 0 then 0 else st.aa.ah.getD j 0 := fun j => by
     unfold Zp.give; dsimp only
     by_cases ez : st.aa.ac.getD i 0 - 1 = 0
     ·rw [if_pos ez, YU hl2]; simp only [ez, and_true]
     ·rw [if_neg ez, if_neg fun k => ez k.2]
    have hrows : ∀ j : Nat, (ZX st.af st.aa i).getD j ByteArray.empty = if i = j ∧ st.aa.ac.getD i 0 - 1 = 0 then ByteArray.empty else st.af.getD j ByteArray.empty := fun j => by
     unfold ZX
     by_cases ez : st.aa.ac.getD i 0 - 1 = 0
     ·rw [if_pos ez, YU hl0]; simp only [ez, and_true]
     ·rw [if_neg ez, if_neg fun k => ez k.2]
    have hge : 1 ≤ st.aa.ac.getD i 0 := by omega
    refine ⟨⟨Ze4.ok ⟨by show (ZX _ _ _).length = 64; rw [Xt]; exact hO.rows, Zin.ok ⟨by rw [Zp.give_refs]; exact hP.refs, by rw [Zp.give_last]; exact hP.last, ?_⟩, hO.txg, hO.keep, ?_, hO.gone, hO.dead, ?_⟩, fun j h8j hj => ?_⟩, ⟨fun q hq hqo hqh => ?_, rfl, rfl, rfl⟩⟩
    ·intro j hj
     have hE := hP.each j hj;rw [hrefs, hlast]
     by_cases ej : i = j
     ·subst ej
      by_cases ez : st.aa.ac.getD i 0 - 1 = 0
      ·rw [if_pos rfl, if_pos ⟨rfl, ez⟩]; refine ⟨by omega, by omega, by omega, fun _ => rfl, by omega⟩
      ·rw [if_pos rfl, if_neg fun k => ez k.2]; refine ⟨by omega, by omega, by omega, by omega, by omega⟩
     ·rw [if_neg ej, if_neg fun k => ej k.1]; exact hE
    ·rw [QT]
     intro j hj;have hE := QT.1 hO.each j hj;show ((ZX st.af st.aa i).getD j ByteArray.empty).size ≤ 128 ∧ (((ZX st.af st.aa i).getD j ByteArray.empty).size = 0 ↔ (st.aa.give i).ac.getD j 0 = 0) ∧ (st.aa.give i).ah.getD j 0 ≤ st.ak;rw [hrows, hrefs, hlast];have := hO.txg
     by_cases ej : i = j
     ·subst ej
      by_cases ez : st.aa.ac.getD i 0 - 1 = 0
      ·rw [if_pos rfl, if_pos ⟨rfl, ez⟩, if_pos ⟨rfl, ez⟩]; exact ⟨Nat.zero_le _, ⟨fun _ => ez, fun _ => rfl⟩, by omega⟩
      ·rw [if_pos rfl, if_neg fun k => ez k.2, if_neg fun k => ez k.2]; refine ⟨hE.1, ⟨fun k => ?_, fun k => absurd k ez⟩, hE.2.2⟩
       have := hE.2.1.1 k; omega
     ·rw [if_neg ej, if_neg fun k => ej k.1, if_neg fun k => ej k.1]; exact hE
    ·rw [YH]; intro j hj
     show (cnt (st.ag ++ st.aj) j : Int) ≤ (st.aa.give i).ac.getD j 0;rw [hrefs];have := YH.1 hO.owed j hj
     split
     ·rename_i ej; subst ej; omega
     ·exact this
    ·show (((cnt X j + cnt (st.ag ++ st.aj) j : Nat)) : Int) ≤ (st.aa.give i).ac.getD j 0
     rw [hrefs];have := h.owes j h8j hj;rw [hone] at this
     by_cases ej : i = j
     ·rw [if_pos ej] at this ⊢; subst ej; omega
     ·rw [if_neg ej] at this ⊢; omega
    ·obtain ⟨j, h8j, hj, eq⟩ := Za0 hqo hqh
     rw [QH eq, QH eq];show (ZX st.af st.aa i).getD j _ = _;rw [hrows]
     by_cases ej : i = j ∧ st.aa.ac.getD i 0 - 1 = 0
     ·obtain ⟨rfl, ez⟩ := ej
      have := ZjD hq eq
      omega
     ·rw [if_neg ej]
end
theorem Inv.step_gone {st : Za} {X : List PtrD} {p : PtrD} {r : List PtrD} (h : Inv st X) (hg : st.ag = p :: r) :
    Inv { st with af := (Ji (st.af, st.aa) p).1, aa := (Ji (st.af, st.aa) p).2, ag := r } X ∧ ZY st { st with af := (Ji (st.af, st.aa) p).1, aa := (Ji (st.af, st.aa) p).2, ag := r } X := by
  have hO := Za.ok_spec h.ok;have hgo := hO.gone;rw [hg, List.all_cons, Bool.and_eq_true] at hgo;have hp := hgo.1;unfold Yc at hp;simp only [Bool.and_eq_true, Bool.not_eq_true', decide_eq_true_eq] at hp;obtain ⟨hpo, hph, hpb⟩ := hp;obtain ⟨a, h8, ha, e⟩ := Za0 hpo hph;have hin := UD (p := p) (m := st.ak - 1) (by unfold Yc; rw [hpo, hph, decide_eq_true hpb]; rfl);have hc : ∀ j, cnt (st.ag ++ st.aj) j = (if a = j then 1 else 0) + cnt (r ++ st.aj) j := fun j => by
    rw [hg, cons_append, YN, e]; congr 1; by_cases ej : a = j
    · rw [if_pos ej, if_pos (by omega)]
    · rw [if_neg ej, if_neg (by omega)]
  let q : PtrD := { p with al := st.ak }
  have hqh : q.hole = false := by
    cases hq : q.hole with
    | false => rfl
    | true => have := YD hq; have e2 : q.aA = 0 := by rw [this]; rfl
              have e3 : q.aA = p.aA := rfl
              omega
  have hqo : q.ok = true := by
    have h1 := hpo;unfold PtrD.ok at h1 ⊢;rw [hph, Bool.false_or] at h1;rw [hqh, Bool.false_or];simp only [Bool.and_eq_true] at h1 ⊢;exact ⟨⟨⟨⟨h1.1.1.1.1, XF hO.txg.1 hO.txg.2⟩, h1.1.1.2⟩, h1.1.2⟩, h1.2⟩
  have h0 : Inv { st with ag := r } (q :: X) := by
    refine ⟨Ze4.ok ⟨hO.rows, hO.space, hO.txg, hO.keep, hO.each, hgo.2, hO.dead, ?_⟩, fun j h8j hj => ?_⟩
    · rw [YH]; intro j hj
      have := YH.1 hO.owed j hj;rw [hc] at this;show (cnt (r ++ st.aj) j : Int) ≤ st.aa.ac.getD j 0
      omega
    · have := h.owes j h8j hj
      rw [hc] at this;rw [YN];show (((if p.aA = (j : Int) then 1 else 0) + cnt X j + cnt (r ++ st.aj) j : Nat) : Int) ≤ st.aa.ac.getD j 0;rw [e]
      by_cases ej : a = j
      · rw [if_pos ej] at this; rw [if_pos (by omega)]; omega
      · rw [if_neg ej] at this; rw [if_neg (by omega)]; omega
  have h1 := h0.free hqo;rw [Zam hqh (by show ¬ st.ak ≤ st.aw; have := hO.keep; omega) (by show ¬ st.ak < st.ak; omega)] at h1;exact ⟨h1.1, ⟨h1.2.row, rfl, rfl, rfl⟩⟩
theorem Inv.drops : ∀ {g : List PtrD} {st : Za} {X : List PtrD}, Inv st X → st.ag = g → Inv { st with af := (Z2 (st.af, st.aa) g).1, aa := (Z2 (st.af, st.aa) g).2, ag := [] } X ∧ ZY st { st with af := (Z2 (st.af, st.aa) g).1, aa := (Z2 (st.af, st.aa) g).2, ag := [] } X
 | [], st, X, h, hg => by
  have e : ({ st with af := (Z2 (st.af, st.aa) []).1, aa := (Z2 (st.af, st.aa) []).2, ag := [] } : Za) = st := by
   cases st; simp only [Z2, List.foldl_nil] at hg ⊢; subst hg; rfl
  rw [e]; exact ⟨h, ZY.refl _ _⟩
 | p :: r, st, X, h, hg => by
  obtain ⟨h1, k1⟩ := h.step_gone hg;obtain ⟨h2, k2⟩ := Inv.drops h1 rfl;exact ⟨h2, k1.trans k2⟩
structure Rows (st st' : Za) (X : List PtrD) : Prop where
  row : ∀ q ∈ X, q.ok = true → q.hole = false → Yk st' q = Yk st q
  txg : st.ak ≤ st'.ak
theorem ZY.rows {st st' : Za} {X : List PtrD} (h : ZY st st' X) : Rows st st' X := ⟨h.row, by rw [h.txg]; exact Int.le_refl _⟩
theorem Rows.mono {a b : Za} {X Y : List PtrD} (h : Rows a b X) (hs : ∀ q ∈ Y, q ∈ X) : Rows a b Y := ⟨fun q hq => h.row q (hs q hq), h.txg⟩
theorem Inv.next {st : Za} {X : List PtrD} (h : Inv st X) (ht : st.ak < 900) : Inv st.nextOf X ∧ Rows st st.nextOf X := by
 obtain ⟨h1, k1⟩ := h.drops rfl;have hO := Za.ok_spec h1.ok;have hP := Zp.ok_spec hO.space;have hE := QT.1 hO.each;refine ⟨⟨Ze4.ok ⟨hO.rows, hO.space, ⟨by have := hO.txg.1; show 1 ≤ st.ak + 1; have h5 : 1 ≤ st.ak := this; omega, by show st.ak + 1 ≤ 900; omega⟩, ⟨hO.keep.1, by have h5 : st.aw ≤ st.ak - 1 := hO.keep.2; show st.aw ≤ st.ak + 1 - 1; omega⟩, ?_, rfl, hO.dead, hO.owed⟩, h1.owes⟩, ⟨k1.row, by show st.ak ≤ st.ak + 1; omega⟩⟩;rw [QT];intro i hi;obtain ⟨a, b, c⟩ := hE i hi;exact ⟨a, b, by have h5 : (Z2 (st.af, st.aa) st.ag).2.ah.getD i 0 ≤ st.ak := c; show (Z2 (st.af, st.aa) st.ag).2.ah.getD i 0 ≤ st.ak + 1; omega⟩
theorem ZfE {st st' : Za} {p : PtrD} (h : p.hole = false → Yk st' p = Yk st p) : XM st' p = XM st p := by
 cases hh : p.hole with
 | true => rw [ZaQ hh, ZaQ hh]
 | false => rw [QF hh, QF hh, h hh]
theorem Zan {st st' : Za} {p : PtrD} (h : p.hole = false → Yk st' p = Yk st p) : Zn st' p = Zn st p := by
 cases hh : p.hole with
 | true => rw [Y5 hh, Y5 hh]
 | false => unfold Zn; rw [hh, h hh]
theorem ZbP {st st' : Za} {p : PtrD} {n : Int} (h : p.hole = false → Yk st' p = Yk st p) : kids st' p n = kids st p n := by
 unfold kids;rw [ZfE h, Zan h]
noncomputable def lvL (st : Za) : Nat → PtrD → List PtrD
 | 0, p => [p]
 | n + 1, p => ((kids st p ((n + 1 : Nat) : Int)).getD []).flatMap (lvL st n)
theorem QI {st : Za} {p : PtrD} {n : Nat} {l : List PtrD} (hk : kids st p ((n + 1 : Nat) : Int) = some l) : lvL st (n + 1) p = l.flatMap (lvL st n) := by
 show ((kids st p ((n + 1 : Nat) : Int)).getD []).flatMap (lvL st n) = _;rw [hk]; rfl
theorem Yp {f g : PtrD → List PtrD} : ∀ {l : List PtrD}, (∀ q ∈ l, f q = g q) → l.flatMap f = l.flatMap g
 | [], _ => rfl
 | q :: r, h => by rw [flatMap_cons, flatMap_cons, h q (mem_cons_self ..), Yp fun x hx => h x (mem_cons_of_mem _ hx)]
theorem Wf.stays {st st' : Za} (ht : st.ak ≤ st'.ak) : ∀ {n : Nat} {p : PtrD}, Wf st n p → (∀ q ∈ allL st n p, Yk st' q = Yk st q) → Wf st' n p ∧ allL st' n p = allL st n p ∧ lvL st' n p = lvL st n p
 | 0, p, h, hr => by
  have e : p.hole = false → Yk st' p = Yk st p := fun hh => hr p (by rw [Qy hh]; exact mem_singleton.2 rfl)
  exact ⟨⟨h.1, by have := h.2.1; omega, h.2.2.1, by rw [ZfE e]; exact h.2.2.2⟩, rfl, rfl⟩
 | n + 1, p, ⟨ho, hb, l, hk, hw⟩, hr => by
  have e : p.hole = false → Yk st' p = Yk st p := fun hh => hr p (by rw [YP hh hk]; exact mem_cons_self ..)
  have hk2 : kids st' p ((n + 1 : Nat) : Int) = some l := by rw [ZbP e]; exact hk
  have ih : ∀ q ∈ l, Wf st' n q ∧ allL st' n q = allL st n q ∧ lvL st' n q = lvL st n q := fun q hq => Wf.stays ht (hw q hq) fun x hx => by
   cases hh : p.hole with
   | false => exact hr x (by rw [YP hh hk]; exact mem_cons_of_mem _ (List.mem_flatMap.2 ⟨q, hq, hx⟩))
   | true =>
    rcases (QG hk).2.2 with ⟨_, rfl⟩ | ⟨h2, _⟩
    ·simp only [YB, mem_cons, List.not_mem_nil, or_false, or_self] at hq
     rw [hq, ZU X2] at hx; cases hx
    ·rw [hh] at h2; cases h2
  refine ⟨⟨ho, by omega, l, hk2, fun q hq => (ih q hq).1⟩, ?_, ?_⟩
  ·cases hh : p.hole with
   | true => rw [ZU hh, ZU hh]
   | false => rw [YP hh hk, YP hh hk2, Yp fun q hq => (ih q hq).2.1]
  ·rw [QI hk, QI hk2, Yp fun q hq => (ih q hq).2.2]
theorem UL {st : Za} : ∀ {n : Nat} {p : PtrD}, Wf st n p → ∀ q ∈ allL st n p, q.ok = true ∧ q.hole = false
 | 0, p, h, q, hq => by
  cases hh : p.hole with
  | true => rw [ZU hh] at hq; cases hq
  | false => rw [Qy hh, mem_singleton] at hq; rw [hq]; exact ⟨h.1, hh⟩
 | n + 1, p, ⟨ho, hb, l, hk, hw⟩, q, hq => by
  cases hh : p.hole with
  | true => rw [ZU hh] at hq; cases hq
  | false =>
   rw [YP hh hk] at hq;rcases mem_cons.1 hq with rfl | hq
   ·exact ⟨ho, hh⟩
   ·obtain ⟨k, hkl, hq⟩ := List.mem_flatMap.1 hq
    exact UL (hw k hkl) q hq
theorem Wf.rows {st st' : Za} {n : Nat} {p : PtrD} {X : List PtrD} (h : Wf st n p) (hr : Rows st st' X) (hs : ∀ q ∈ allL st n p, q ∈ X) : Wf st' n p ∧ allL st' n p = allL st n p ∧ lvL st' n p = lvL st n p :=
 h.stays hr.txg fun q hq => hr.row q (hs q hq) (UL h q hq).1 (UL h q hq).2
theorem Znz {st : Za} (h0 : 0 ≤ st.ak) {n : Nat} {p : PtrD} (h : p.hole = true) : Wf st n p := by rw [YD h]; exact Wf.zero h0 n
theorem ZgB {st : Za} : ∀ {n : Nat} {p : PtrD}, Wf st n p → (lvL st n p).length = 4 ^ n
 | 0, p, _ => rfl
 | n + 1, p, ⟨ho, hb, l, hk, hw⟩ => by
  rw [QI hk];have : ∀ m : List PtrD, (∀ q ∈ m, Wf st n q) → (m.flatMap (lvL st n)).length = m.length * 4 ^ n := by
   intro m
   induction m with
   | nil => intro _; simp
   | cons q r ih => intro hq; rw [flatMap_cons, length_append, ZgB (hq q (mem_cons_self ..)), ih fun x hx => hq x (mem_cons_of_mem _ hx), length_cons, Nat.add_mul]; omega
  rw [this l hw, VS hk, Nat.pow_succ]; omega
theorem ZbQ {st : Za} {p : PtrD} (h : p.hole = true) : ∀ n, lvL st n p = replicate (4 ^ n) PtrD.zero
 | 0 => by rw [YD h]; rfl
 | n + 1 => by
  rw [QI (Jy h)];simp only [YB, flatMap_cons, flatMap_nil, append_nil, ZbQ X2 n, List.replicate_append_replicate]
  congr 1; rw [Nat.pow_succ]; omega
theorem ZbR {st : Za} : ∀ {n : Nat} {p : PtrD}, Wf st n p → ∀ q ∈ lvL st n p, Wf st 0 q
 | 0, p, h, q, hq => by rw [show lvL st 0 p = [p] from rfl, mem_singleton] at hq; rw [hq]; exact h
 | n + 1, p, ⟨ho, hb, l, hk, hw⟩, q, hq => by
  rw [QI hk] at hq;obtain ⟨k, hkl, hq⟩ := List.mem_flatMap.1 hq;exact ZbR (hw k hkl) q hq
noncomputable def VB (st : Za) : List PtrD → Option (List (Option Zc))
 | [] => some []
 | p :: r => bif p.hole then (VB st r).map (none :: ·) else match JX (Zn st p) with
  | none => none
  | some n => bif VP st n.au then (VB st r).map (some n :: ·) else none
noncomputable def ZgC (st : Za) (t : Ze) : Option (List (Option Zc)) := (leavesF st t).bind (VB st)
theorem Zkq {st : Za} {t : Ze} (h : leavesF st t = none) : ZgC st t = none := by unfold ZgC; rw [h]; rfl
theorem ZfF {st : Za} {t : Ze} {l : List PtrD} (h : leavesF st t = some l) : ZgC st t = VB st l := by unfold ZgC; rw [h]; rfl
theorem Zcv {st : Za} {p : PtrD} {r : List PtrD} (h : p.hole = true) : VB st (p :: r) = (VB st r).map (none :: ·) := by
 show (bif p.hole then _ else _) = _;rw [h]; rfl
theorem ZhH {st : Za} {p : PtrD} {r : List PtrD} (h : p.hole = false) (hn : JX (Zn st p) = none) : VB st (p :: r) = none := by
 show (bif p.hole then _ else _) = _;rw [h, hn]; rfl
theorem ZfG {st : Za} {p : PtrD} {r : List PtrD} {n : Zc} (h : p.hole = false) (hn : JX (Zn st p) = some n) (ht : VP st n.au = false) : VB st (p :: r) = none := by
 show (bif p.hole then _ else _) = _;rw [h, hn];simp only [cond_false, ht]
theorem Zeg {st : Za} {p : PtrD} {r : List PtrD} {n : Zc} (h : p.hole = false) (hn : JX (Zn st p) = some n) (ht : VP st n.au = true) : VB st (p :: r) = (VB st r).map (some n :: ·) := by
 show (bif p.hole then _ else _) = _;rw [h, hn];simp only [cond_false, ht, cond_true]
theorem Zeh {xs : List PtrD} {i : Nat} (h : i < xs.length) : xs.drop i = xs.getD i PtrD.zero :: xs.drop (i + 1) := by
 rw [List.drop_eq_getElem_cons h, getD_eq_getElem?_getD, List.getElem?_eq_getElem h]; rfl
theorem ZhI {st : Za} : ∀ {l : List PtrD} {ns : List (Option Zc)}, VB st l = some ns → ns.length = l.length
 | [], ns, h => by obtain rfl := Option.some.inj h; rfl
 | p :: r, ns, h => by
  have key : ∀ o : Option Zc, (VB st r).map (o :: ·) = some ns → ns.length = (p :: r).length := fun o h => by
   cases hr : VB st r with
   | none => rw [hr] at h; cases h
   | some m =>
    rw [hr] at h;obtain rfl := Option.some.inj h;rw [length_cons, length_cons, ZhI hr]
  cases hh : p.hole with
  | true => exact key _ ((Zcv hh).symm.trans h)
  | false =>
   cases hn : JX (Zn st p) with
   | none => rw [ZhH hh hn] at h; cases h
   | some n =>
    cases ht : VP st n.au with
    | false => rw [ZfG hh hn ht] at h; cases h
    | true => exact key _ ((Zeg hh hn ht).symm.trans h)
theorem Zao {st : Za} {t : Ze} {l : List PtrD} (h : leavesF st t = some l) : l.length ≤ 16 := by
 obtain ⟨x, ht, hd, _, rfl, hx, hn⟩ := ZaS h;unfold topB at ht;rw [Bool.and_eq_true] at ht;have := Zw ht.1
 omega
def ZhJ (st : Za) (p : PtrD) (o : Option Zc) : Prop := (p.hole = true ∧ o = none) ∨ (p.hole = false ∧ ∃ n, o = some n ∧ JX (Zn st p) = some n ∧ VP st n.au = true)
theorem ZgD {st : Za} : ∀ {l : List PtrD} {ns : List (Option Zc)}, VB st l = some ns → ∀ k, k < l.length → ZhJ st (l.getD k PtrD.zero) (ns.getD k none)
 | [], ns, h, k, hk => absurd hk (Nat.not_lt_zero _)
 | p :: r, ns, h, k, hk => by
  have key : ∀ o : Option Zc, ZhJ st p o → (VB st r).map (o :: ·) = some ns → ZhJ st ((p :: r).getD k PtrD.zero) (ns.getD k none) := fun o ho h => by
   cases hr : VB st r with
   | none => rw [hr] at h; cases h
   | some m =>
    rw [hr] at h;obtain rfl := Option.some.inj h
    cases k with
    | zero => exact ho
    | succ k => exact ZgD hr k (by simpa using hk)
  cases hh : p.hole with
  | true => exact key _ (.inl ⟨hh, rfl⟩) ((Zcv hh).symm.trans h)
  | false =>
   cases hn : JX (Zn st p) with
   | none => rw [ZhH hh hn] at h; cases h
   | some n =>
    cases ht : VP st n.au with
    | false => rw [ZfG hh hn ht] at h; cases h
    | true => exact key _ (.inr ⟨hh, n, rfl, hn, ht⟩) ((Zeg hh hn ht).symm.trans h)
theorem ZjE {st : Za} {t : Ze} {ns : List (Option Zc)} (h : ZgC st t = some ns) : ∃ l, leavesF st t = some l ∧ VB st l = some ns ∧ ns.length = l.length := by
 cases hl : leavesF st t with
 | none => rw [Zkq hl] at h; cases h
 | some l => rw [ZfF hl] at h; exact ⟨l, rfl, h, ZhI h⟩
theorem Za.reads_of {W w : World} {s : List Asr} (h : St W s w) (x : Za) (a0 : Option Addr) (c0 : Nat) (a1 : Option Addr) (c1 : Nat) (a2 : Option Addr) (c2 : Nat) (a4 : Option Addr) (c4 : Nat) (a6 : Option Addr) (c6 : Nat) (i0 : Nat) (i1 : Nat) (i2 : Nat) (i4 : Nat) (i6 : Nat) (h0 : s[i0]? = some (Zf Zx 1 9 (.slice a0 x.af.length c0) x.af)) (h1 : s[i1]? = some (Zf Zv 1 3 (.slice a1 x.aa.ac.length c1) x.aa.ac)) (h2 : s[i2]? = some (Zf Zv 1 3 (.slice a2 x.aa.ah.length c2) x.aa.ah)) (h4 : s[i4]? = some (Zf PtrD.cells 5 31 (.slice a4 x.ag.length c4) x.ag)) (h6 : s[i6]? = some (Zf PtrD.cells 5 31 (.slice a6 x.aj.length c6) x.aj)) : Za.Reads w (.agg #[.slice a0 x.af.length c0, .slice a1 x.aa.ac.length c1, .slice a2 x.aa.ah.length c2, .int .i64 x.ak, .slice a4 x.ag.length c4, .int .i64 x.aw, .slice a6 x.aj.length c6, .bool x.ax]) x := by
 obtain ⟨_, _, e0, r0⟩ := h.rdS Zo i0 h0;simp only [Value.slice.injEq, true_and] at e0;obtain ⟨rfl, rfl⟩ := e0;obtain ⟨_, _, e1, r1⟩ := h.rdS Zj i1 h1;simp only [Value.slice.injEq, true_and] at e1;obtain ⟨rfl, rfl⟩ := e1;obtain ⟨_, _, e2, r2⟩ := h.rdS Zj i2 h2;simp only [Value.slice.injEq, true_and] at e2;obtain ⟨rfl, rfl⟩ := e2;obtain ⟨_, _, e4, r4⟩ := h.rdS PtrD.cells_len i4 h4;simp only [Value.slice.injEq, true_and] at e4;obtain ⟨rfl, rfl⟩ := e4;obtain ⟨_, _, e6, r6⟩ := h.rdS PtrD.cells_len i6 h6;simp only [Value.slice.injEq, true_and] at e6;obtain ⟨rfl, rfl⟩ := e6;exact ⟨a0, c0, a1, c1, a2, c2, a4, c4, a6, c6, rfl, r0, r1, r2, r4, r6⟩
theorem ZiK (v : Value) (st : Za) (text : ByteArray) (w0 : World) (hr : Za.Reads w0 v st) (h0 : st.af.length = 64) (h1 : st.aa.ac.length = 64) (h2 : st.aa.ah.length = 64) : Calls prog 90 #[v, .string text] w0 fun e w' => e = .returned (.int .i64 (Zax st text)) ∧ Below w0.heap.size w0 w' := by
 obtain ⟨a0, c0, a1, c1, a2, c2, a4, c4, a6, c6, rfl, r0, r1, r2, _, _⟩ := hr;obtain ⟨g0, o0, r0⟩ := r0.opn;obtain ⟨g1, o1, r1⟩ := r1.opn;obtain ⟨g2, o2, r2⟩ := r2.opn;have R0 := Bx.mk r0;have R1 := Bx.mk r1;have R2 := Bx.mk r2;clear r0 r1 r2;have E := Bx.mk (St.start w0);refine Xy func90 rfl ntmps90 [(0, sV a0 c0 a1 c1 a2 c2 a4 c4 a6 c6 st), (1, .string text)] ⟨rfl, rfl, trivial⟩ rfl ?_;refine xsr ?_;refine ybx E ?_;clear E;intro w1 b1 E;refine xr 1 rfl<|xne<|xsq<|xsr<|xr 1 rfl<|xne<|xbl ?_;intro a J;refine Zt (ι := Nat) (fun k a w => ((8 ≤ k ∧ k ≤ 64) ∧ Zy (Uh st text) 56 8 = Zy (Uh st text) (64 - k) k) ∧ Fr 40 a [(1, .string text), (2, .pointer (some ⟨b1, 0, none⟩)), (5, .int .i64 (k : Int))] ∧ St w0 ([boxA b1 8 29 (sV a0 c0 a1 c1 a2 c2 a4 c4 a6 c6 st)]) w) (fun k => 64 - k) 8 ⟨⟨by omega, rfl⟩, J.less _ ⟨rfl, rfl, rfl, trivial⟩, E.o⟩ ?_;clear J E; clear a;rintro k a w2 ⟨⟨⟨hk, hk2⟩, hf⟩, J, E⟩;replace E := Bx.mk E;revert a;refine xsq<|xsr<|xr 2 rfl<|xne<|xcs 7 rfl (fun cc1=>?_) fun cc1=>?_
 have cc1 := of_decide_eq_true cc1;refine xct rfl<|xsk<|xet<|xsq<|xbl<|xsq ?_;intro a J;refine Z1 (by kernel_rfl) (by kernel_rfl) E.o ?_;revert a;refine Qf 0 rfl<|Ql 0 rfl rfl<|xqr 1 rfl<|xq rfl (fun E=>vxr 9 k 1 rfl (R0.out.ao k (by omega)))<|xq rfl (fun E a J=>ylo (v := .string (st.af.getD k ByteArray.empty)) rfl (J.ev rfl) (R0.out.elem1 E (Zg (xs := st.af) (j := k) (d := ByteArray.empty) (by omega)) rfl))<|xqr 1 rfl<|xq rfl (fun E a J=>YW rfl (J.ev rfl) (J.ev rfl))<|xqr 1 rfl<|xcs 17 rfl (fun cc2=>?_) fun cc2=>?_
 refine Qf 1 rfl<|Qf 1 rfl<|Ql 0 rfl rfl<|xqr 1 rfl<|xq rfl (fun E=>vxr 3 k 1 rfl (R2.out.ao k (by omega)))<|xq rfl (fun E a J=>ylo (v := .int .i64 (st.aa.ah.getD k 0)) rfl (J.ev rfl) (R2.out.elem1 E (Zg (xs := st.aa.ah) (j := k) (d := 0) (by omega)) rfl))<|Qf 3 rfl<|Ql 0 rfl rfl<|xqr 3 rfl<|xcs 28 rfl (fun cc3=>?_) fun cc3=>?_;refine Qf 1 rfl<|Qf 0 rfl<|Ql 0 rfl rfl<|xqr 1 rfl<|xq rfl (fun E=>vxr 3 k 1 rfl (R1.out.ao k (by omega)))<|xq rfl (fun E a J=>ylo (v := .int .i64 (st.aa.ac.getD k 0)) rfl (J.ev rfl) (R1.out.elem1 E (Zg (xs := st.aa.ac) (j := k) (d := 0) (by omega)) rfl))<|Qf 3 rfl<|Ql 0 rfl rfl<|xqr 2 rfl ?_;intro a J;refine wpQuiet_nil ?_; intro w3 E; replace E := Bx.mk E;revert a;refine xet<|xcs 38 rfl (fun cc4=>?_) fun cc4=>?_
 refine xct rfl<|xsr<|xr 2 rfl<|xne<|xre<|xbr<|xtr<|xtr<|xbr<|xtr<|xb1 results90 rfl ?_;have hp : Uh st text k = true := by unfold Uh; rw [cc2, cc3, cc4]; rfl
 have he : Zax st text = k := by unfold Zax; rw [Zae (by omega) hp hf]; exact Zju (by omega)
 exact ⟨by rw [he], E.o.bel⟩;refine xcf rfl<|xsk<|xeb<|xet<|xrl<|xr 1 rfl<|xy rfl (vad rfl)<|xr 1 rfl<|xne ?_;have hp : Uh st text k = false := by unfold Uh; rw [cc2, cc3, cc4]; rfl
 intro a J;exact ⟨k + 1, ⟨⟨by omega, Jt (by omega) hp hf rfl⟩, J.less _ ⟨rfl, rfl, rfl, trivial⟩, E.o⟩, (by omega)⟩;refine xqr 10 rfl ?_;intro a J;refine wpQuiet_nil ?_; intro w4 E; replace E := Bx.mk E;revert a;refine xet<|xcf rfl<|xsk<|xeb<|xet<|xrl<|xr 1 rfl<|xy rfl (vad rfl)<|xr 1 rfl<|xne ?_;have hp : Uh st text k = false := by unfold Uh; rw [cc2, cc3]; rfl
 intro a J;exact ⟨k + 1, ⟨⟨by omega, Jt (by omega) hp hf rfl⟩, J.less _ ⟨rfl, rfl, rfl, trivial⟩, E.o⟩, (by omega)⟩;refine xqr 21 rfl ?_;intro a J;refine wpQuiet_nil ?_; intro w5 E; replace E := Bx.mk E;revert a;refine xet<|xcf rfl<|xsk<|xeb<|xet<|xrl<|xr 1 rfl<|xy rfl (vad rfl)<|xr 1 rfl<|xne ?_;have hp : Uh st text k = false := by unfold Uh; rw [cc2]; rfl
 intro a J;exact ⟨k + 1, ⟨⟨by omega, Jt (by omega) hp hf rfl⟩, J.less _ ⟨rfl, rfl, rfl, trivial⟩, E.o⟩, (by omega)⟩;have cc1 := of_decide_eq_false cc1;refine xcf rfl<|xex<|xtx<|xtx<|xbh<|xet<|xsr<|xr 1 rfl<|xne<|xre<|xb1 results90 rfl ?_;have he : Zax st text = -1 := by unfold Zax; rw [Zbr (by omega) hf]; rfl
 exact ⟨by rw [he], E.o.bel⟩
theorem Zl7 (ao : Option Addr) (cap : Nat) (xs : List Int) (n : Int) (w0 : World) (hr : Rd Zv 1 w0 ao xs.length xs) (hl : xs.length ≤ 9223372036854775806) : Calls prog 106 #[.slice ao xs.length cap, .int .i64 n] w0 fun e w' => e = .returned (.bool (inL xs n)) ∧ Below w0.heap.size w0 w' := by
 obtain ⟨g0, o0, r0⟩ := hr.opn;have R0 := Bx.mk r0;clear r0;have E := Bx.mk (St.start w0);refine ent func106 ntmps106 ?_;refine xsr<|xr 1 rfl<|xne<|xsq<|xsr<|xr 1 rfl<|xne<|xbl ?_;intro a J;refine Zt (ι := Nat) (fun k a w => (k ≤ xs.length ∧ (xs.take k).any (· == n) = false) ∧ Fr 18 a [(0, .slice ao xs.length cap), (1, .int .i64 n), (5, .int .i64 (k : Int))] ∧ St w0 ([]) w) (fun k => xs.length - k) 0 ⟨⟨Nat.zero_le _, rfl⟩, J.ls _, E.o⟩ ?_;clear J E; clear a;rintro k a w1 ⟨⟨hk, hf⟩, J, E⟩;replace E := Bx.mk E;revert a;refine xsq<|xsr<|xr 2 rfl<|xy rfl (vn 3 1 rfl)<|xr 1 rfl<|xne<|xcs 9 rfl (fun cc1=>?_) fun cc1=>?_
 have cc1 := of_decide_eq_true cc1;refine xct rfl<|xsk<|xet<|xsq<|xbl<|xsr<|xr 2 rfl<|xy rfl (vxr 3 k 1 rfl (R0.out.ao k (by omega)))<|xy rfl (fun a J=>ylo (v := .int .i64 (xs.getD k 0)) rfl (J.ev rfl) (R0.out.elem1 E.o (Zg (xs := xs) (j := k) (d := 0) (by omega)) rfl))<|xr 2 rfl<|xne<|xcs 17 rfl (fun cc2=>?_) fun cc2=>?_;refine xct rfl<|xsr<|xr 1 rfl<|xne<|xre<|xbr<|xtr<|xtr<|xbr<|xtr<|xb1 results106 rfl ?_;exact ⟨by rw [Zlu (by omega) cc2], E.o.bel⟩;refine xcf rfl<|xsk<|xeb<|xet<|xrl<|xr 1 rfl<|xy rfl (vad rfl)<|xr 1 rfl<|xne ?_;intro a J;exact ⟨k + 1, ⟨⟨by omega, Zlv (by omega) cc2 hf⟩, J.less _ ⟨rfl, rfl, rfl, trivial⟩, E.o⟩, (by omega)⟩;have cc1 := of_decide_eq_false cc1;refine xcf rfl<|xex<|xtx<|xtx<|xbh<|xet<|xsr<|xr 1 rfl<|xne<|xre<|xb1 results106 rfl ?_;exact ⟨by rw [Zng (by omega) hf], E.o.bel⟩
theorem Za1 (ao a2 a3 : Option Addr) (cap n2 c2 c3 : Nat) (s : Zp) (w0 : World) (hr : Rd Zv 1 w0 ao s.ac.length s.ac) (hl : s.ac.length = 64) : Calls prog 91 #[.agg #[.slice ao s.ac.length cap, .slice a2 n2 c2], .int .i64 8, .slice a3 0 c3] w0 fun e w' => e = .returned (.int .i64 (Ui s)) ∧ Below w0.heap.size w0 w' := by
 obtain ⟨g0, o0, r0⟩ := hr.opn;have R0 := Bx.mk r0;clear r0;have E := Bx.mk (St.start w0);refine ent func91 ntmps91 ?_;refine xsr ?_;refine ybx E ?_;clear E;intro w1 b1 E;refine xr 1 rfl<|xne<|xsq<|xsr<|xr 1 rfl ?_;refine ycB ((XY 8 _).mono fun _ _ h => ⟨h.1, h.2 ▸ Below.refl _ _⟩) func79 E ?_;clear E;intro w2 E;refine xr 1 rfl<|xne<|xcs 12 rfl (fun cc1=>?_) fun cc1=>?_;exact absurd cc1 (by decide);refine xcf rfl<|xsk<|xet<|xsr<|xr 1 rfl<|xne<|xsq<|xsr<|xr 1 rfl<|xne<|xbl ?_;intro a J;refine Zt (ι := Nat) (fun i a w => (i ≤ 56 ∧ Zy (VG s) 56 8 = Zy (VG s) (56 - i) (8 + i)) ∧ Fr 38 a [(1, .int .i64 8), (2, .slice a3 0 c3), (3, .pointer (some ⟨b1, 0, none⟩)), (7, .int .i64 56), (8, .int .i64 (i : Int))] ∧ St w0 ([boxA b1 2 26 (.agg #[.slice ao s.ac.length cap, .slice a2 n2 c2])]) w) (fun i => 56 - i) 0 ⟨⟨Nat.zero_le _, rfl⟩, J.ls _, E.o⟩ ?_;clear J E; clear a;rintro i a w3 ⟨⟨hk, hf⟩, J, E⟩;replace E := Bx.mk E;revert a;refine xsq<|xsr<|xr 3 rfl<|xne<|xcs 15 rfl (fun cc2=>?_) fun cc2=>?_
 have cc2 := of_decide_eq_true cc2;refine xct rfl<|xsk<|xet<|xsq<|xbl<|xsr<|xr 1 rfl<|xy rfl (fun a J=>ZH rfl (J.ev rfl) (J.ev rfl) (Z5 (by omega)))<|xr 1 rfl<|xy rfl (vad rfl)<|xr 1 rfl<|xy rfl (fun a J=>Qj rfl (J.ev rfl) (J.ev rfl) (by omega) (Qm (by omega) (by omega)))<|xy rfl (fun a J=>XL (r := ((8 + i : Nat) : Int)) rfl (J.ev rfl) (J.ev rfl) ((Z5 (by omega)).trans (by omega)))<|xr 1 rfl<|xne<|xsr<|Xf 0 rfl<|Xl 0 E rfl rfl<|xr 1 rfl<|xy rfl (vxr 3 (8 + i) 1 rfl (R0.out.ao (8 + i) (by omega)))<|xy rfl (fun a J=>ylo (v := .int .i64 (s.ac.getD (8 + i) 0)) rfl (J.ev rfl) (R0.out.elem1 E.o (Zg (xs := s.ac) (j := 8 + i) (d := 0) (by omega)) rfl))<|xr 2 rfl<|xcs 31 rfl (fun cc3=>?_) fun cc3=>?_;refine xr 2 rfl ?_;refine Jg (Zl7 _ _ ([] : List Int) ((8 + i : Nat) : Int) _ ⟨rfl, fun i hi => absurd hi (Nat.not_lt_zero _)⟩ (by simp)) func106 E ?_;clear E;intro w4 E;refine xr 2 rfl<|xne<|xcs 36 rfl (fun cc4=>?_) fun cc4=>?_;refine xct rfl<|xsr<|xr 2 rfl<|xne<|xre<|xbr<|xtr<|xtr<|xbr<|xtr<|xb1 results91 rfl ?_;have hp : VG s (8 + i) = true := cc3;exact ⟨by rw [show Ui s = ((8 + i : Nat) : Int) by unfold Ui; rw [hf, show 56 - i = (55 - i) + 1 by omega, U4 hp]; exact Zju (by omega)], E.o.bel⟩;refine xcf rfl<|xsk<|xeb<|xet<|xrl<|xr 1 rfl<|xy rfl (vad rfl)<|xr 1 rfl<|xne ?_;have hp : VG s (8 + i) = false := by unfold VG; first | exact cc3 | (exfalso; simp [inL] at cc4)
 intro a J;exact ⟨i + 1, ⟨⟨by omega, by rw [hf, show 56 - i = (56 - (i + 1)) + 1 by omega, UE hp]; rfl⟩, J.less _ ⟨rfl, rfl, rfl, rfl, rfl, trivial⟩, E.o⟩, (by omega)⟩;refine xr 5 rfl<|xne<|xcf rfl<|xsk<|xeb<|xet<|xrl<|xr 1 rfl<|xy rfl (vad rfl)<|xr 1 rfl<|xne ?_;have hp : VG s (8 + i) = false := by unfold VG; first | exact cc3 | (exfalso; simp [inL] at cc3)
 intro a J;exact ⟨i + 1, ⟨⟨by omega, by rw [hf, show 56 - i = (56 - (i + 1)) + 1 by omega, UE hp]; rfl⟩, J.less _ ⟨rfl, rfl, rfl, rfl, rfl, trivial⟩, E.o⟩, (by omega)⟩;have cc2 := of_decide_eq_false cc2;refine xcf rfl<|xex<|xtx<|xtx<|xbh<|xet<|xsr<|xr 1 rfl<|xne<|xre<|xb1 results91 rfl ?_;exact ⟨by rw [show Ui s = -1 by unfold Ui; rw [hf, show 56 - i = 0 by omega, show i = 56 by omega]; rfl], E.o.bel⟩
def Zod (w0 : World) (b : Nat) (st : Za) (text : ByteArray) (level : Int) (a0 : Option Addr) (c0 : Nat) (a1 : Option Addr) (c1 : Nat) (a2 : Option Addr) (c2 : Nat) (a4 : Option Addr) (c4 : Nat) (a6 : Option Addr) (c6 : Nat) (F : List Asr) (e : Ending) (w' : World) : Prop :=
 (writeAt st text level = 64 ∧ e = .returned (.tuple #[.agg #[.int .i64 0, .int .i64 0, .int .i64 0, .int .i64 0, .int .i64 0], .bool false]) ∧ St w0 (boxA b 8 29 (.agg #[.slice a0 st.af.length c0, .slice a1 st.aa.ac.length c1, .slice a2 st.aa.ah.length c2, .int .i64 st.ak, .slice a4 st.ag.length c4, .int .i64 st.aw, .slice a6 st.aj.length c6, .bool st.ax]) :: Zf Zx 1 9 (.slice a0 st.af.length c0) st.af :: Zf Zv 1 3 (.slice a1 st.aa.ac.length c1) st.aa.ac :: Zf Zv 1 3 (.slice a2 st.aa.ah.length c2) st.aa.ah :: F) w') ∨
 (∃ i : Nat, i < 64 ∧ writeAt st text level = i ∧ e = .returned (.tuple #[.agg #[.int .i64 (Q6 (i : Int) st.ak level text).aA, .int .i64 (Q6 (i : Int) st.ak level text).al, .int .i64 (Q6 (i : Int) st.ak level text).av, .int .i64 (Q6 (i : Int) st.ak level text).aC, .int .i64 (Q6 (i : Int) st.ak level text).ar], .bool (YK (i : Int) st.ak level text)]) ∧
  ((YA st text level < 64 ∧ St w0 (boxA b 8 29 (.agg #[.slice a0 st.af.length c0, .slice a1 st.aa.ac.length c1, .slice a2 st.aa.ah.length c2, .int .i64 st.ak, .slice a4 st.ag.length c4, .int .i64 st.aw, .slice a6 st.aj.length c6, .bool st.ax]) :: Zf Zx 1 9 (.slice a0 st.af.length c0) st.af :: Zf Zv 1 3 (.slice a1 st.aa.ac.length c1) (st.aa.ac.set i (st.aa.ac.getD i 0 + 1)) :: Zf Zv 1 3 (.slice a2 st.aa.ah.length c2) (st.aa.ah.set i st.ak) :: F) w') ∨ (¬ YA st text level < 64 ∧ St w0 (boxA b 8 29 (.agg #[.slice a0 st.af.length c0, .slice a1 st.aa.ac.length c1, .slice a2 st.aa.ah.length c2, .int .i64 st.ak, .slice a4 st.ag.length c4, .int .i64 st.aw, .slice a6 st.aj.length c6, .bool st.ax]) :: Zf Zx 1 9 (.slice a0 st.af.length c0) (st.af.set i text) :: Zf Zv 1 3 (.slice a1 st.aa.ac.length c1) (st.aa.ac.set i (st.aa.ac.getD i 0 + 1)) :: Zf Zv 1 3 (.slice a2 st.aa.ah.length c2) (st.aa.ah.set i st.ak) :: F) w')))
theorem Zkr (w0 w : World) (b : Nat) (a0 : Option Addr) (c0 : Nat) (a1 : Option Addr) (c1 : Nat) (a2 : Option Addr) (c2 : Nat) (a4 : Option Addr) (c4 : Nat) (a6 : Option Addr) (c6 : Nat) (st : Za) (text : ByteArray) (level : Int) (F : List Asr) (hS : St w0 (boxA b 8 29 (sV a0 c0 a1 c1 a2 c2 a4 c4 a6 c6 st) :: Zf Zx 1 9 (.slice a0 st.af.length c0) st.af :: Zf Zv 1 3 (.slice a1 st.aa.ac.length c1) st.aa.ac :: Zf Zv 1 3 (.slice a2 st.aa.ah.length c2) st.aa.ah :: F) w) (h0 : st.af.length = 64) (h1 : st.aa.ac.length = 64) (h2 : st.aa.ah.length = 64) (hs : text.size ≤ 9223372036854775806) (hr : ∀ i, 0 ≤ st.aa.ac.getD i 0 ∧ st.aa.ac.getD i 0 ≤ 900) : Calls prog 67 #[.pointer (some ⟨b, 0, none⟩), .string text, .int .i64 level] w (Zod w0 b st text level a0 c0 a1 c1 a2 c2 a4 c4 a6 c6 F) := by
 obtain ⟨g0, rfl, _, _, _, _⟩ := hS.rowOpen 1 rfl (by omega);obtain ⟨g1, rfl, _, _, _, _⟩ := hS.rowOpen 2 rfl (by omega);obtain ⟨g2, rfl, _, _, _, _⟩ := hS.rowOpen 3 rfl (by omega);have E := Bx.mk hS;clear hS;refine ent func67 ntmps67 ?_;refine xsr ?_;refine yal z5 E ?_;clear E;intro w1 b1 E;refine xr 1 rfl<|xne<|xsr<|xr 1 rfl<|xne<|xsq<|xsr<|xr 2 rfl<|Xf 7 rfl<|Xl 1 E rfl rfl<|xr 1 rfl<|xcs 15 rfl (fun cc1=>?_) fun cc1=>?_;refine xr 3 rfl<|xne<|xcs 18 rfl (fun cc2=>?_) fun cc2=>?_;have hsame : (st.ax && (level == 0)) = true := by rw [cc1, cc2]; rfl
 refine xct rfl<|xsr<|xr 2 rfl<|Xf 0 rfl<|Xl 1 E rfl rfl<|xy rfl (vn 9 1 rfl)<|xr 1 rfl<|xne<|xbl ?_;intro a J;refine Zt (ι := Nat) (fun k a w => (k ≤ 64 ∧ Zy (XA st text) 64 0 = Zy (XA st text) (64 - k) k) ∧ Fr 133 a [(0, .pointer (some ⟨b, 0, none⟩)), (1, .string text), (2, .int .i64 level), (6, .pointer (some ⟨b1, 0, none⟩)), (7, .bool false), (8, .int .i64 (-1)), (22, .slice (some ⟨g0, 0, none⟩) st.af.length c0), (23, .int .i64 (st.af.length : Int)), (24, .int .i64 (k : Int))] ∧ St w0 (boxA b1 5 31 (az5) :: boxA b 8 29 (.agg #[.slice (some ⟨g0, 0, none⟩) st.af.length c0, .slice (some ⟨g1, 0, none⟩) st.aa.ac.length c1, .slice (some ⟨g2, 0, none⟩) st.aa.ah.length c2, .int .i64 st.ak, .slice a4 st.ag.length c4, .int .i64 st.aw, .slice a6 st.aj.length c6, .bool st.ax]) :: Zf Zx 1 9 (.slice (some ⟨g0, 0, none⟩) st.af.length c0) st.af :: Zf Zv 1 3 (.slice (some ⟨g1, 0, none⟩) st.aa.ac.length c1) st.aa.ac :: Zf Zv 1 3 (.slice (some ⟨g2, 0, none⟩) st.aa.ah.length c2) st.aa.ah :: F) w) (fun k => 64 - k) 0 ⟨⟨Nat.zero_le _, rfl⟩, J.ls _, E.o⟩ ?_;clear J E; clear a;rintro k a w2 ⟨⟨hk, hf⟩, J, E⟩;replace E := Bx.mk E;revert a;refine xsr<|xr 1 rfl<|xne<|xsq<|xcs 25 rfl (fun cc3=>?_) fun cc3=>?_
 have cc3 := of_decide_eq_true cc3;refine xct rfl<|xsk<|xet<|xsq<|xbl<|xsr<|xr 1 rfl<|xy rfl (vx 9 k 1 rfl)<|xy rfl (fun a J=>ylo (v := .string (st.af.getD k ByteArray.empty)) rfl (J.ev rfl) (E.o.elem1 Zo 2 rfl (Zg (xs := st.af) (j := k) (d := ByteArray.empty) (by omega)) rfl))<|xr 2 rfl<|xne<|xsq ?_;intro a J;refine Z1 (by kernel_rfl) (by kernel_rfl) E.o ?_;revert a;refine xqr 2 rfl<|Qf 1 rfl<|Qf 0 rfl<|Ql 1 rfl rfl<|xqr 1 rfl<|xq rfl (fun E=>vx 3 k 1 rfl)<|xq rfl (fun E a J=>ylo (v := .int .i64 (st.aa.ac.getD k 0)) rfl (J.ev rfl) (E.elem1 Zj 3 rfl (Zg (xs := st.aa.ac) (j := k) (d := 0) (by omega)) rfl))<|xqr 2 rfl<|xcs 38 rfl (fun cc4=>?_) fun cc4=>?_
 refine xqr 2 rfl<|xq rfl (fun E a J=>YW rfl (J.ev rfl) (J.ev rfl))<|xqr 2 rfl<|xcs 43 rfl (fun cc5=>?_) fun cc5=>?_;refine xqr 2 rfl<|Qf 1 rfl<|Qf 1 rfl<|Ql 1 rfl rfl<|xqr 1 rfl<|xq rfl (fun E=>vx 3 k 1 rfl)<|xq rfl (fun E a J=>ylo (v := .int .i64 (st.aa.ah.getD k 0)) rfl (J.ev rfl) (E.elem1 Zj 4 rfl (Zg (xs := st.aa.ah) (j := k) (d := 0) (by omega)) rfl))<|xqr 2 rfl<|Qf 3 rfl<|Ql 1 rfl rfl<|xqr 3 rfl<|xcs 58 rfl (fun cc6=>?_) fun cc6=>?_;refine xqr 2 rfl<|Qf 3 rfl<|Ql 1 rfl rfl<|xqr 2 rfl<|Qf 1 rfl<|Qf 0 rfl<|Ql 1 rfl rfl<|xqr 1 rfl<|xq rfl (fun E=>vx 3 k 1 rfl)<|xq rfl (fun E a J=>ylo (v := .int .i64 (st.aa.ac.getD k 0)) rfl (J.ev rfl) (E.elem1 Zj 3 rfl (Zg (xs := st.aa.ac) (j := k) (d := 0) (by omega)) rfl))<|xqr 2 rfl ?_;intro a J;refine wpQuiet_nil ?_; intro w3 E; replace E := Bx.mk E;revert a;refine xet<|xcs 72 rfl (fun cc7=>?_) fun cc7=>?_
 have hp : XA st text k = true := by unfold XA; rw [cc4, cc5, cc6, cc7]; rfl
 have hlk : YA st text level = k := by unfold YA; rw [if_pos hsame, Zix (by omega) hp hf]
 refine xct rfl<|xsr<|xr 2 rfl<|xne<|xex ?_;intro a J;refine Ze5 rfl ?_;revert a;refine xtx<|xtx<|xbh<|xet<|xsq<|xsr<|xr 2 rfl<|xne<|xcs 76 rfl (fun cc8=>?_) fun cc8=>?_
 exact absurd (of_decide_eq_true cc8) (by omega);refine xcf rfl<|xsk<|xet<|xsq ?_;have hrb := hr k;refine xrl<|xr 2 rfl<|Xf 1 rfl<|Xf 0 rfl<|Xl 1 E rfl rfl<|xr 1 rfl<|xy rfl (vx 3 k 1 rfl)<|xy rfl (fun a J=>ylo (v := .int .i64 (st.aa.ac.getD k 0)) rfl (J.ev rfl) (E.o.elem1 Zj 3 rfl (Zg (xs := st.aa.ac) (j := k) (d := 0) (by omega)) rfl))<|xy rfl (vad rfl)<|xy rfl (vx 3 k 1 rfl) ?_;intro a J;refine ZC Zj rfl rfl rfl (J.ev rfl) (J.ev rfl) (by kernel_rfl) E.o 3 rfl (by omega) (z := ((st.aa.ac.getD k 0) + 1)) rfl rfl ?_; clear E; intro w4 E; replace E := Bx.mk E;refine Jl<|wp_seq ?_;refine QX 11 (by kernel_rfl) (by kernel_rfl) E.o ?_;simp only [List.take_succ_cons, take_zero, List.drop_succ_cons, drop_zero];intro w5 E;replace E := Bx.mk E;refine ZD rfl J rfl rfl (Yi rfl (J.ev rfl)) ?_; clear J a; intro a J;refine ZD rfl J rfl rfl (Y1 rfl (J.ev rfl)) ?_; clear J a; intro a J;refine ZD rfl J rfl rfl (yfa 1 rfl (J.ev rfl)) ?_; clear J a; intro a J;refine ZD rfl J rfl rfl (yfa 1 rfl (J.ev rfl)) ?_; clear J a; intro a J;refine ZD rfl J rfl rfl (ylo (v := .slice (some ⟨g2, 0, none⟩) st.aa.ah.length c2) rfl (J.ev rfl) (((E.o.box 1 rfl).cell 2).trans rfl)) ?_; clear J a; intro a J;refine ZD rfl J rfl rfl (Yi rfl (J.ev rfl)) ?_; clear J a; intro a J;refine ZD rfl J rfl rfl (Yi rfl (J.ev rfl)) ?_; clear J a; intro a J;refine ZD rfl J rfl rfl (Y1 rfl (J.ev rfl)) ?_; clear J a; intro a J;refine ZD rfl J rfl rfl (yfa 3 rfl (J.ev rfl)) ?_; clear J a; intro a J;refine ZD rfl J rfl rfl (ylo (v := .int .i64 st.ak) rfl (J.ev rfl) (((E.o.box 1 rfl).cell 3).trans rfl)) ?_; clear J a; intro a J;refine ZD rfl J rfl rfl (ZN (e := 3) (i := k) (size := 1) rfl (J.ev rfl) (J.ev rfl) (by kernel_rfl) rfl (by omega)) ?_; clear J a; intro a J;refine wpStill_nil ?_;refine ZC Zj rfl rfl rfl (J.ev rfl) (J.ev rfl) (by kernel_rfl) E.o 4 rfl (by omega) (z := st.ak) rfl rfl ?_; clear E; intro w6 E; replace E := Bx.mk E;revert a;refine xne<|xsr<|xr 3 rfl<|Xf 3 rfl<|Xl 1 E rfl rfl<|xr 2 rfl ?_;refine ycB (U8 (k : Int) st.ak level text _ (by omega)) func89 E ?_;clear E;intro w7 E;refine xr 2 rfl ?_;refine yst E 0 ?_;clear E;intro w8 E;replace E:=E.nm;refine xr 1 rfl<|xne<|xre ?_;intro a J;refine ZR J results67 (J.resBox rfl (E.o.box 0 rfl) (by kernel_rfl)) (J.res rfl) ?_;exact .inr ⟨k, by omega, by unfold writeAt; rw [if_pos (by omega)]; exact hlk, rfl, .inl ⟨by omega, E.o.tail⟩⟩;refine xcf rfl<|xsk<|xeb<|xet<|xrl<|xy rfl (vad rfl)<|xr 1 rfl<|xne ?_;have hp : XA st text k = false := by unfold XA; rw [cc4, cc5, cc6, cc7]; rfl
 intro a J;exact ⟨k + 1, ⟨⟨by omega, U5 (by omega) hp hf⟩, J.less _ ⟨rfl, rfl, rfl, rfl, rfl, rfl, rfl, rfl, rfl, trivial⟩, E.o⟩, (by omega)⟩;refine xqr 14 rfl ?_;intro a J;refine wpQuiet_nil ?_; intro w9 E; replace E := Bx.mk E;revert a;refine xet<|xcf rfl<|xsk<|xeb<|xet<|xrl<|xy rfl (vad rfl)<|xr 1 rfl<|xne ?_;have hp : XA st text k = false := by unfold XA; rw [cc4, cc5, cc6]; rfl
 intro a J;exact ⟨k + 1, ⟨⟨by omega, U5 (by omega) hp hf⟩, J.less _ ⟨rfl, rfl, rfl, rfl, rfl, rfl, rfl, rfl, rfl, trivial⟩, E.o⟩, (by omega)⟩;refine xqr 29 rfl ?_;intro a J;refine wpQuiet_nil ?_; intro w10 E; replace E := Bx.mk E;revert a;refine xet<|xcf rfl<|xsk<|xeb<|xet<|xrl<|xy rfl (vad rfl)<|xr 1 rfl<|xne ?_;have hp : XA st text k = false := by unfold XA; rw [cc4, cc5]; rfl
 intro a J;exact ⟨k + 1, ⟨⟨by omega, U5 (by omega) hp hf⟩, J.less _ ⟨rfl, rfl, rfl, rfl, rfl, rfl, rfl, rfl, rfl, trivial⟩, E.o⟩, (by omega)⟩;refine xqr 34 rfl ?_;intro a J;refine wpQuiet_nil ?_; intro w11 E; replace E := Bx.mk E;revert a;refine xet<|xcf rfl<|xsk<|xeb<|xet<|xrl<|xy rfl (vad rfl)<|xr 1 rfl<|xne ?_;have hp : XA st text k = false := by unfold XA; rw [cc4]; rfl
 intro a J;exact ⟨k + 1, ⟨⟨by omega, U5 (by omega) hp hf⟩, J.less _ ⟨rfl, rfl, rfl, rfl, rfl, rfl, rfl, rfl, rfl, trivial⟩, E.o⟩, (by omega)⟩;have cc3 := of_decide_eq_false cc3;have hlk : YA st text level = 64 := by unfold YA; rw [if_pos hsame, Zj5 (by omega) hf]
 refine xcf rfl<|xex<|xtx<|xtx<|xbh<|xet<|xsq<|xsr<|xr 2 rfl<|xne ?_;intro a J;replace J := J.know (k := 76) (c := true) rfl (by decide);revert a;refine xct rfl<|xsr<|xr 1 rfl<|xne<|xsq<|xbl ?_;intro a J;refine Zt (ι := Nat) (fun j a w => ((8 ≤ j ∧ j ≤ 64) ∧ Zy (Xg st) 56 8 = Zy (Xg st) (64 - j) j) ∧ Fr 133 a [(0, .pointer (some ⟨b, 0, none⟩)), (1, .string text), (2, .int .i64 level), (6, .pointer (some ⟨b1, 0, none⟩)), (7, .bool false), (8, .int .i64 (j : Int))] ∧ St w0 (boxA b1 5 31 (az5) :: boxA b 8 29 (.agg #[.slice (some ⟨g0, 0, none⟩) st.af.length c0, .slice (some ⟨g1, 0, none⟩) st.aa.ac.length c1, .slice (some ⟨g2, 0, none⟩) st.aa.ah.length c2, .int .i64 st.ak, .slice a4 st.ag.length c4, .int .i64 st.aw, .slice a6 st.aj.length c6, .bool st.ax]) :: Zf Zx 1 9 (.slice (some ⟨g0, 0, none⟩) st.af.length c0) st.af :: Zf Zv 1 3 (.slice (some ⟨g1, 0, none⟩) st.aa.ac.length c1) st.aa.ac :: Zf Zv 1 3 (.slice (some ⟨g2, 0, none⟩) st.aa.ah.length c2) st.aa.ah :: F) w) (fun j => 64 - j) 8 ⟨⟨by omega, rfl⟩, J.less _ ⟨rfl, rfl, rfl, rfl, rfl, rfl, trivial⟩, E.o⟩ ?_;clear J E; clear a;rintro j a w12 ⟨⟨⟨hj8, hj⟩, hg⟩, J, E⟩;replace E := Bx.mk E;revert a;refine xsq<|xsr<|xr 3 rfl<|xcs 79 rfl (fun cc9=>?_) fun cc9=>?_
 have hj64 := of_decide_eq_true cc9;refine xr 2 rfl<|Xf 1 rfl<|Xf 0 rfl<|Xl 1 E rfl rfl<|xr 1 rfl<|xy rfl (vx 3 j 1 rfl)<|xy rfl (fun a J=>ylo (v := .int .i64 (st.aa.ac.getD j 0)) rfl (J.ev rfl) (E.o.elem1 Zj 3 rfl (Zg (xs := st.aa.ac) (j := j) (d := 0) (by omega)) rfl))<|xr 2 rfl<|xne<|xcs 89 rfl (fun cc10=>?_) fun cc10=>?_;refine xct rfl<|xsk<|xet<|xbl<|xrl<|xr 1 rfl<|xy rfl (vad rfl)<|xr 1 rfl<|xni<|xeb<|xet ?_;have hp : Xg st j = false := by unfold Xg; rw [cc10]; rfl
 intro a J;exact ⟨j + 1, ⟨⟨by omega, Jt (by omega) hp hg rfl⟩, J.less _ ⟨rfl, rfl, rfl, rfl, rfl, rfl, trivial⟩, E.o⟩, (by omega)⟩;have hp : Xg st j = true := by unfold Xg; rw [cc10]; rfl
 have hwr : writeAt st text level = j := by unfold writeAt; rw [if_neg (by omega), Zae (by omega) hp hg]
 refine xcf rfl<|xex<|xtx<|xtx<|xbh<|xet<|xsq<|xsr<|xr 2 rfl<|xne<|xcs 93 rfl (fun cc11=>?_) fun cc11=>?_;exact absurd (eq_of_beq cc11) (by omega);refine xcf rfl<|xsk<|xet<|xrl<|xr 2 rfl<|Xf 0 rfl<|Xl 1 E rfl rfl<|xr 2 rfl<|xy rfl (vx 9 j 1 rfl) ?_;intro a J;refine ZC Zo rfl rfl rfl (J.ev rfl) (J.ev rfl) (by kernel_rfl) E.o 2 rfl (by omega) (z := text) rfl rfl ?_; clear E; intro w13 E; replace E := Bx.mk E;refine Jl<|wp_seq ?_;have hrb := hr j;revert a;refine xrl<|xr 2 rfl<|Xf 1 rfl<|Xf 0 rfl<|Xl 1 E rfl rfl<|xr 1 rfl<|xy rfl (vx 3 j 1 rfl)<|xy rfl (fun a J=>ylo (v := .int .i64 (st.aa.ac.getD j 0)) rfl (J.ev rfl) (E.o.elem1 Zj 3 rfl (Zg (xs := st.aa.ac) (j := j) (d := 0) (by omega)) rfl))<|xy rfl (vad rfl)<|xy rfl (vx 3 j 1 rfl) ?_;intro a J;refine ZC Zj rfl rfl rfl (J.ev rfl) (J.ev rfl) (by kernel_rfl) E.o 3 rfl (by omega) (z := ((st.aa.ac.getD j 0) + 1)) rfl rfl ?_; clear E; intro w14 E; replace E := Bx.mk E;refine Jl<|wp_seq ?_;refine QX 11 (by kernel_rfl) (by kernel_rfl) E.o ?_;simp only [List.take_succ_cons, take_zero, List.drop_succ_cons, drop_zero];intro w15 E;replace E := Bx.mk E;refine ZD rfl J rfl rfl (Yi rfl (J.ev rfl)) ?_; clear J a; intro a J;refine ZD rfl J rfl rfl (Y1 rfl (J.ev rfl)) ?_; clear J a; intro a J;refine ZD rfl J rfl rfl (yfa 1 rfl (J.ev rfl)) ?_; clear J a; intro a J;refine ZD rfl J rfl rfl (yfa 1 rfl (J.ev rfl)) ?_; clear J a; intro a J;refine ZD rfl J rfl rfl (ylo (v := .slice (some ⟨g2, 0, none⟩) st.aa.ah.length c2) rfl (J.ev rfl) (((E.o.box 1 rfl).cell 2).trans rfl)) ?_; clear J a; intro a J;refine ZD rfl J rfl rfl (Yi rfl (J.ev rfl)) ?_; clear J a; intro a J;refine ZD rfl J rfl rfl (Yi rfl (J.ev rfl)) ?_; clear J a; intro a J;refine ZD rfl J rfl rfl (Y1 rfl (J.ev rfl)) ?_; clear J a; intro a J;refine ZD rfl J rfl rfl (yfa 3 rfl (J.ev rfl)) ?_; clear J a; intro a J;refine ZD rfl J rfl rfl (ylo (v := .int .i64 st.ak) rfl (J.ev rfl) (((E.o.box 1 rfl).cell 3).trans rfl)) ?_; clear J a; intro a J;refine ZD rfl J rfl rfl (ZN (e := 3) (i := j) (size := 1) rfl (J.ev rfl) (J.ev rfl) (by kernel_rfl) rfl (by omega)) ?_; clear J a; intro a J;refine wpStill_nil ?_;refine ZC Zj rfl rfl rfl (J.ev rfl) (J.ev rfl) (by kernel_rfl) E.o 4 rfl (by omega) (z := st.ak) rfl rfl ?_; clear E; intro w16 E; replace E := Bx.mk E;revert a;refine xne<|xsr<|xr 3 rfl<|Xf 3 rfl<|Xl 1 E rfl rfl<|xr 2 rfl ?_;refine ycB (U8 (j : Int) st.ak level text _ (by omega)) func89 E ?_;clear E;intro w17 E;refine xr 2 rfl ?_;refine yst E 0 ?_;clear E;intro w18 E;replace E:=E.nm;refine xr 1 rfl<|xne<|xre ?_;intro a J;refine ZR J results67 (J.resBox rfl (E.o.box 0 rfl) (by kernel_rfl)) (J.res rfl) ?_;exact .inr ⟨j, by omega, hwr, rfl, .inr ⟨by omega, E.o.tail⟩⟩;have hj64 := of_decide_eq_false cc9;refine xr 10 rfl<|xne<|xcf rfl<|xex<|xtx<|xtx<|xbh<|xet<|xsq<|xsr<|xr 2 rfl<|xne<|xcs 93 rfl (fun cc12=>?_) fun cc12=>?_;refine xct rfl<|xsr<|xy rfl (vb z5 rfl) ?_;refine yst E 0 ?_;clear E;intro w19 E;replace E:=E.nm;refine xr 1 rfl<|xne<|xre<|xtr<|xtr ?_;intro a J;refine ZR J results67 (J.resBox rfl (E.o.box 0 rfl) (by kernel_rfl)) (J.res rfl) ?_;exact .inl ⟨by unfold writeAt; rw [if_neg (by omega), Zbr (by omega) hg], rfl, E.o.tail⟩;exact absurd (beq_eq_false_iff_ne.1 cc12) (by omega);have hsame : (st.ax && (level == 0)) = false := by rw [cc1, cc2]; rfl
 have hlk : YA st text level = 64 := by unfold YA; rw [if_neg (by rw [hsame]; simp)]
 refine xcf rfl<|xsk<|xet<|xsq<|xsr<|xr 2 rfl<|xne ?_;intro a J;replace J := J.know (k := 76) (c := true) rfl (by decide);revert a;refine xct rfl<|xsr<|xr 1 rfl<|xne<|xsq<|xbl ?_;intro a J;refine Zt (ι := Nat) (fun j a w => ((8 ≤ j ∧ j ≤ 64) ∧ Zy (Xg st) 56 8 = Zy (Xg st) (64 - j) j) ∧ Fr 133 a [(0, .pointer (some ⟨b, 0, none⟩)), (1, .string text), (2, .int .i64 level), (6, .pointer (some ⟨b1, 0, none⟩)), (7, .bool false), (8, .int .i64 (j : Int))] ∧ St w0 (boxA b1 5 31 (az5) :: boxA b 8 29 (.agg #[.slice (some ⟨g0, 0, none⟩) st.af.length c0, .slice (some ⟨g1, 0, none⟩) st.aa.ac.length c1, .slice (some ⟨g2, 0, none⟩) st.aa.ah.length c2, .int .i64 st.ak, .slice a4 st.ag.length c4, .int .i64 st.aw, .slice a6 st.aj.length c6, .bool st.ax]) :: Zf Zx 1 9 (.slice (some ⟨g0, 0, none⟩) st.af.length c0) st.af :: Zf Zv 1 3 (.slice (some ⟨g1, 0, none⟩) st.aa.ac.length c1) st.aa.ac :: Zf Zv 1 3 (.slice (some ⟨g2, 0, none⟩) st.aa.ah.length c2) st.aa.ah :: F) w) (fun j => 64 - j) 8 ⟨⟨by omega, rfl⟩, J.less _ ⟨rfl, rfl, rfl, rfl, rfl, rfl, trivial⟩, E.o⟩ ?_;clear J E; clear a;rintro j a w20 ⟨⟨⟨hj8, hj⟩, hg⟩, J, E⟩;replace E := Bx.mk E;revert a;refine xsq<|xsr<|xr 3 rfl<|xcs 79 rfl (fun cc13=>?_) fun cc13=>?_
 have hj64 := of_decide_eq_true cc13;refine xr 2 rfl<|Xf 1 rfl<|Xf 0 rfl<|Xl 1 E rfl rfl<|xr 1 rfl<|xy rfl (vx 3 j 1 rfl)<|xy rfl (fun a J=>ylo (v := .int .i64 (st.aa.ac.getD j 0)) rfl (J.ev rfl) (E.o.elem1 Zj 3 rfl (Zg (xs := st.aa.ac) (j := j) (d := 0) (by omega)) rfl))<|xr 2 rfl<|xne<|xcs 89 rfl (fun cc14=>?_) fun cc14=>?_;refine xct rfl<|xsk<|xet<|xbl<|xrl<|xr 1 rfl<|xy rfl (vad rfl)<|xr 1 rfl<|xni<|xeb<|xet ?_;have hp : Xg st j = false := by unfold Xg; rw [cc14]; rfl
 intro a J;exact ⟨j + 1, ⟨⟨by omega, Jt (by omega) hp hg rfl⟩, J.less _ ⟨rfl, rfl, rfl, rfl, rfl, rfl, trivial⟩, E.o⟩, (by omega)⟩;have hp : Xg st j = true := by unfold Xg; rw [cc14]; rfl
 have hwr : writeAt st text level = j := by unfold writeAt; rw [if_neg (by omega), Zae (by omega) hp hg]
 refine xcf rfl<|xex<|xtx<|xtx<|xbh<|xet<|xsq<|xsr<|xr 2 rfl<|xne<|xcs 93 rfl (fun cc15=>?_) fun cc15=>?_;exact absurd (eq_of_beq cc15) (by omega);refine xcf rfl<|xsk<|xet<|xrl<|xr 2 rfl<|Xf 0 rfl<|Xl 1 E rfl rfl<|xr 2 rfl<|xy rfl (vx 9 j 1 rfl) ?_;intro a J;refine ZC Zo rfl rfl rfl (J.ev rfl) (J.ev rfl) (by kernel_rfl) E.o 2 rfl (by omega) (z := text) rfl rfl ?_; clear E; intro w21 E; replace E := Bx.mk E;refine Jl<|wp_seq ?_;have hrb := hr j;revert a;refine xrl<|xr 2 rfl<|Xf 1 rfl<|Xf 0 rfl<|Xl 1 E rfl rfl<|xr 1 rfl<|xy rfl (vx 3 j 1 rfl)<|xy rfl (fun a J=>ylo (v := .int .i64 (st.aa.ac.getD j 0)) rfl (J.ev rfl) (E.o.elem1 Zj 3 rfl (Zg (xs := st.aa.ac) (j := j) (d := 0) (by omega)) rfl))<|xy rfl (vad rfl)<|xy rfl (vx 3 j 1 rfl) ?_;intro a J;refine ZC Zj rfl rfl rfl (J.ev rfl) (J.ev rfl) (by kernel_rfl) E.o 3 rfl (by omega) (z := ((st.aa.ac.getD j 0) + 1)) rfl rfl ?_; clear E; intro w22 E; replace E := Bx.mk E;refine Jl<|wp_seq ?_;refine QX 11 (by kernel_rfl) (by kernel_rfl) E.o ?_;simp only [List.take_succ_cons, take_zero, List.drop_succ_cons, drop_zero];intro w23 E;replace E := Bx.mk E;refine ZD rfl J rfl rfl (Yi rfl (J.ev rfl)) ?_; clear J a; intro a J;refine ZD rfl J rfl rfl (Y1 rfl (J.ev rfl)) ?_; clear J a; intro a J;refine ZD rfl J rfl rfl (yfa 1 rfl (J.ev rfl)) ?_; clear J a; intro a J;refine ZD rfl J rfl rfl (yfa 1 rfl (J.ev rfl)) ?_; clear J a; intro a J;refine ZD rfl J rfl rfl (ylo (v := .slice (some ⟨g2, 0, none⟩) st.aa.ah.length c2) rfl (J.ev rfl) (((E.o.box 1 rfl).cell 2).trans rfl)) ?_; clear J a; intro a J;refine ZD rfl J rfl rfl (Yi rfl (J.ev rfl)) ?_; clear J a; intro a J;refine ZD rfl J rfl rfl (Yi rfl (J.ev rfl)) ?_; clear J a; intro a J;refine ZD rfl J rfl rfl (Y1 rfl (J.ev rfl)) ?_; clear J a; intro a J;refine ZD rfl J rfl rfl (yfa 3 rfl (J.ev rfl)) ?_; clear J a; intro a J;refine ZD rfl J rfl rfl (ylo (v := .int .i64 st.ak) rfl (J.ev rfl) (((E.o.box 1 rfl).cell 3).trans rfl)) ?_; clear J a; intro a J;refine ZD rfl J rfl rfl (ZN (e := 3) (i := j) (size := 1) rfl (J.ev rfl) (J.ev rfl) (by kernel_rfl) rfl (by omega)) ?_; clear J a; intro a J;refine wpStill_nil ?_;refine ZC Zj rfl rfl rfl (J.ev rfl) (J.ev rfl) (by kernel_rfl) E.o 4 rfl (by omega) (z := st.ak) rfl rfl ?_; clear E; intro w24 E; replace E := Bx.mk E;revert a;refine xne<|xsr<|xr 3 rfl<|Xf 3 rfl<|Xl 1 E rfl rfl<|xr 2 rfl ?_;refine ycB (U8 (j : Int) st.ak level text _ (by omega)) func89 E ?_;clear E;intro w25 E;refine xr 2 rfl ?_;refine yst E 0 ?_;clear E;intro w26 E;replace E:=E.nm;refine xr 1 rfl<|xne<|xre ?_;intro a J;refine ZR J results67 (J.resBox rfl (E.o.box 0 rfl) (by kernel_rfl)) (J.res rfl) ?_;exact .inr ⟨j, by omega, hwr, rfl, .inr ⟨by omega, E.o.tail⟩⟩;have hj64 := of_decide_eq_false cc13;refine xr 10 rfl<|xne<|xcf rfl<|xex<|xtx<|xtx<|xbh<|xet<|xsq<|xsr<|xr 2 rfl<|xne<|xcs 93 rfl (fun cc16=>?_) fun cc16=>?_;refine xct rfl<|xsr<|xy rfl (vb z5 rfl) ?_;refine yst E 0 ?_;clear E;intro w27 E;replace E:=E.nm;refine xr 1 rfl<|xne<|xre<|xtr<|xtr ?_;intro a J;refine ZR J results67 (J.resBox rfl (E.o.box 0 rfl) (by kernel_rfl)) (J.res rfl) ?_;exact .inl ⟨by unfold writeAt; rw [if_neg (by omega), Zbr (by omega) hg], rfl, E.o.tail⟩;exact absurd (beq_eq_false_iff_ne.1 cc16) (by omega);have hsame : (st.ax && (level == 0)) = false := by rw [cc1]; rfl
 have hlk : YA st text level = 64 := by unfold YA; rw [if_neg (by rw [hsame]; simp)]
 refine xr 3 rfl<|xne<|xcf rfl<|xsk<|xet<|xsq<|xsr<|xr 2 rfl<|xne ?_;intro a J;replace J := J.know (k := 76) (c := true) rfl (by decide);revert a;refine xct rfl<|xsr<|xr 1 rfl<|xne<|xsq<|xbl ?_;intro a J;refine Zt (ι := Nat) (fun j a w => ((8 ≤ j ∧ j ≤ 64) ∧ Zy (Xg st) 56 8 = Zy (Xg st) (64 - j) j) ∧ Fr 133 a [(0, .pointer (some ⟨b, 0, none⟩)), (1, .string text), (2, .int .i64 level), (6, .pointer (some ⟨b1, 0, none⟩)), (7, .bool false), (8, .int .i64 (j : Int))] ∧ St w0 (boxA b1 5 31 (az5) :: boxA b 8 29 (.agg #[.slice (some ⟨g0, 0, none⟩) st.af.length c0, .slice (some ⟨g1, 0, none⟩) st.aa.ac.length c1, .slice (some ⟨g2, 0, none⟩) st.aa.ah.length c2, .int .i64 st.ak, .slice a4 st.ag.length c4, .int .i64 st.aw, .slice a6 st.aj.length c6, .bool st.ax]) :: Zf Zx 1 9 (.slice (some ⟨g0, 0, none⟩) st.af.length c0) st.af :: Zf Zv 1 3 (.slice (some ⟨g1, 0, none⟩) st.aa.ac.length c1) st.aa.ac :: Zf Zv 1 3 (.slice (some ⟨g2, 0, none⟩) st.aa.ah.length c2) st.aa.ah :: F) w) (fun j => 64 - j) 8 ⟨⟨by omega, rfl⟩, J.less _ ⟨rfl, rfl, rfl, rfl, rfl, rfl, trivial⟩, E.o⟩ ?_;clear J E; clear a;rintro j a w28 ⟨⟨⟨hj8, hj⟩, hg⟩, J, E⟩;replace E := Bx.mk E;revert a;refine xsq<|xsr<|xr 3 rfl<|xcs 79 rfl (fun cc17=>?_) fun cc17=>?_
 have hj64 := of_decide_eq_true cc17;refine xr 2 rfl<|Xf 1 rfl<|Xf 0 rfl<|Xl 1 E rfl rfl<|xr 1 rfl<|xy rfl (vx 3 j 1 rfl)<|xy rfl (fun a J=>ylo (v := .int .i64 (st.aa.ac.getD j 0)) rfl (J.ev rfl) (E.o.elem1 Zj 3 rfl (Zg (xs := st.aa.ac) (j := j) (d := 0) (by omega)) rfl))<|xr 2 rfl<|xne<|xcs 89 rfl (fun cc18=>?_) fun cc18=>?_;refine xct rfl<|xsk<|xet<|xbl<|xrl<|xr 1 rfl<|xy rfl (vad rfl)<|xr 1 rfl<|xni<|xeb<|xet ?_;have hp : Xg st j = false := by unfold Xg; rw [cc18]; rfl
 intro a J;exact ⟨j + 1, ⟨⟨by omega, Jt (by omega) hp hg rfl⟩, J.less _ ⟨rfl, rfl, rfl, rfl, rfl, rfl, trivial⟩, E.o⟩, (by omega)⟩;have hp : Xg st j = true := by unfold Xg; rw [cc18]; rfl
 have hwr : writeAt st text level = j := by unfold writeAt; rw [if_neg (by omega), Zae (by omega) hp hg]
 refine xcf rfl<|xex<|xtx<|xtx<|xbh<|xet<|xsq<|xsr<|xr 2 rfl<|xne<|xcs 93 rfl (fun cc19=>?_) fun cc19=>?_;exact absurd (eq_of_beq cc19) (by omega);refine xcf rfl<|xsk<|xet<|xrl<|xr 2 rfl<|Xf 0 rfl<|Xl 1 E rfl rfl<|xr 2 rfl<|xy rfl (vx 9 j 1 rfl) ?_;intro a J;refine ZC Zo rfl rfl rfl (J.ev rfl) (J.ev rfl) (by kernel_rfl) E.o 2 rfl (by omega) (z := text) rfl rfl ?_; clear E; intro w29 E; replace E := Bx.mk E;refine Jl<|wp_seq ?_;have hrb := hr j;revert a;refine xrl<|xr 2 rfl<|Xf 1 rfl<|Xf 0 rfl<|Xl 1 E rfl rfl<|xr 1 rfl<|xy rfl (vx 3 j 1 rfl)<|xy rfl (fun a J=>ylo (v := .int .i64 (st.aa.ac.getD j 0)) rfl (J.ev rfl) (E.o.elem1 Zj 3 rfl (Zg (xs := st.aa.ac) (j := j) (d := 0) (by omega)) rfl))<|xy rfl (vad rfl)<|xy rfl (vx 3 j 1 rfl) ?_;intro a J;refine ZC Zj rfl rfl rfl (J.ev rfl) (J.ev rfl) (by kernel_rfl) E.o 3 rfl (by omega) (z := ((st.aa.ac.getD j 0) + 1)) rfl rfl ?_; clear E; intro w30 E; replace E := Bx.mk E;refine Jl<|wp_seq ?_;refine QX 11 (by kernel_rfl) (by kernel_rfl) E.o ?_;simp only [List.take_succ_cons, take_zero, List.drop_succ_cons, drop_zero];intro w31 E;replace E := Bx.mk E;refine ZD rfl J rfl rfl (Yi rfl (J.ev rfl)) ?_; clear J a; intro a J;refine ZD rfl J rfl rfl (Y1 rfl (J.ev rfl)) ?_; clear J a; intro a J;refine ZD rfl J rfl rfl (yfa 1 rfl (J.ev rfl)) ?_; clear J a; intro a J;refine ZD rfl J rfl rfl (yfa 1 rfl (J.ev rfl)) ?_; clear J a; intro a J;refine ZD rfl J rfl rfl (ylo (v := .slice (some ⟨g2, 0, none⟩) st.aa.ah.length c2) rfl (J.ev rfl) (((E.o.box 1 rfl).cell 2).trans rfl)) ?_; clear J a; intro a J;refine ZD rfl J rfl rfl (Yi rfl (J.ev rfl)) ?_; clear J a; intro a J;refine ZD rfl J rfl rfl (Yi rfl (J.ev rfl)) ?_; clear J a; intro a J;refine ZD rfl J rfl rfl (Y1 rfl (J.ev rfl)) ?_; clear J a; intro a J;refine ZD rfl J rfl rfl (yfa 3 rfl (J.ev rfl)) ?_; clear J a; intro a J;refine ZD rfl J rfl rfl (ylo (v := .int .i64 st.ak) rfl (J.ev rfl) (((E.o.box 1 rfl).cell 3).trans rfl)) ?_; clear J a; intro a J;refine ZD rfl J rfl rfl (ZN (e := 3) (i := j) (size := 1) rfl (J.ev rfl) (J.ev rfl) (by kernel_rfl) rfl (by omega)) ?_; clear J a; intro a J;refine wpStill_nil ?_;refine ZC Zj rfl rfl rfl (J.ev rfl) (J.ev rfl) (by kernel_rfl) E.o 4 rfl (by omega) (z := st.ak) rfl rfl ?_; clear E; intro w32 E; replace E := Bx.mk E;revert a;refine xne<|xsr<|xr 3 rfl<|Xf 3 rfl<|Xl 1 E rfl rfl<|xr 2 rfl ?_;refine ycB (U8 (j : Int) st.ak level text _ (by omega)) func89 E ?_;clear E;intro w33 E;refine xr 2 rfl ?_;refine yst E 0 ?_;clear E;intro w34 E;replace E:=E.nm;refine xr 1 rfl<|xne<|xre ?_;intro a J;refine ZR J results67 (J.resBox rfl (E.o.box 0 rfl) (by kernel_rfl)) (J.res rfl) ?_;exact .inr ⟨j, by omega, hwr, rfl, .inr ⟨by omega, E.o.tail⟩⟩;have hj64 := of_decide_eq_false cc17;refine xr 10 rfl<|xne<|xcf rfl<|xex<|xtx<|xtx<|xbh<|xet<|xsq<|xsr<|xr 2 rfl<|xne<|xcs 93 rfl (fun cc20=>?_) fun cc20=>?_;refine xct rfl<|xsr<|xy rfl (vb z5 rfl) ?_;refine yst E 0 ?_;clear E;intro w35 E;replace E:=E.nm;refine xr 1 rfl<|xne<|xre<|xtr<|xtr ?_;intro a J;refine ZR J results67 (J.resBox rfl (E.o.box 0 rfl) (by kernel_rfl)) (J.res rfl) ?_;exact .inl ⟨by unfold writeAt; rw [if_neg (by omega), Zbr (by omega) hg], rfl, E.o.tail⟩;exact absurd (beq_eq_false_iff_ne.1 cc20) (by omega)
theorem Vf (k : Nat) : Zgm k < 0 ∨ ∃ i : Nat, Zgm k = i ∧ i < 64 := by
 unfold Zgm
 split
 ·exact .inr ⟨k, rfl, by assumption⟩
 ·exact .inl (by omega)
def Zoe (w0 : World) (st : Za) (text : ByteArray) (level : Int) (a0 : Option Addr) (c0 : Nat) (a1 : Option Addr) (c1 : Nat) (a2 : Option Addr) (c2 : Nat) (a4 : Option Addr) (c4 : Nat) (a6 : Option Addr) (c6 : Nat) (F : List Asr) (e : Ending) (w' : World) : Prop :=
 (Qr st text level < 0 ∧ e = .returned (.tuple #[.agg #[.slice a0 st.af.length c0, .slice a1 st.aa.ac.length c1, .slice a2 st.aa.ah.length c2, .int .i64 st.ak, .slice a4 st.ag.length c4, .int .i64 st.aw, .slice a6 st.aj.length c6, .bool st.ax], .agg #[.int .i64 0, .int .i64 0, .int .i64 0, .int .i64 0, .int .i64 0], .bool false]) ∧ St w0 (Zf Zx 1 9 (.slice a0 st.af.length c0) st.af :: Zf Zv 1 3 (.slice a1 st.aa.ac.length c1) st.aa.ac :: Zf Zv 1 3 (.slice a2 st.aa.ah.length c2) st.aa.ah :: Zf PtrD.cells 5 31 (.slice a4 st.ag.length c4) st.ag :: Zf PtrD.cells 5 31 (.slice a6 st.aj.length c6) st.aj :: F) w') ∨
 (∃ i : Nat, i < 64 ∧ Qr st text level = i ∧ ((YK (i : Int) st.ak level text = false ∧ e = .returned (.tuple #[.agg #[.slice a0 st.af.length c0, .slice a1 st.aa.ac.length c1, .slice a2 st.aa.ah.length c2, .int .i64 st.ak, .slice a4 st.ag.length c4, .int .i64 st.aw, .slice a6 st.aj.length c6, .bool st.ax], .agg #[.int .i64 0, .int .i64 0, .int .i64 0, .int .i64 0, .int .i64 0], .bool false]) ∧ St w0 (Zf Zx 1 9 (.slice a0 st.af.length c0) st.af :: Zf Zv 1 3 (.slice a1 st.aa.ac.length c1) st.aa.ac :: Zf Zv 1 3 (.slice a2 st.aa.ah.length c2) st.aa.ah :: Zf PtrD.cells 5 31 (.slice a4 st.ag.length c4) st.ag :: Zf PtrD.cells 5 31 (.slice a6 st.aj.length c6) st.aj :: F) w') ∨ (YK (i : Int) st.ak level text = true ∧ e = .returned (.tuple #[.agg #[.slice a0 st.af.length c0, .slice a1 st.aa.ac.length c1, .slice a2 st.aa.ah.length c2, .int .i64 st.ak, .slice a4 st.ag.length c4, .int .i64 st.aw, .slice a6 st.aj.length c6, .bool st.ax], .agg #[.int .i64 (Q6 (i : Int) st.ak level text).aA, .int .i64 (Q6 (i : Int) st.ak level text).al, .int .i64 (Q6 (i : Int) st.ak level text).av, .int .i64 (Q6 (i : Int) st.ak level text).aC, .int .i64 (Q6 (i : Int) st.ak level text).ar], .bool true]) ∧ St w0 (Zf Zx 1 9 (.slice a0 st.af.length c0) (st.af.set i text) :: Zf Zv 1 3 (.slice a1 st.aa.ac.length c1) (st.aa.ac.set i (st.aa.ac.getD i 0 + 1)) :: Zf Zv 1 3 (.slice a2 st.aa.ah.length c2) (st.aa.ah.set i st.ak) :: Zf PtrD.cells 5 31 (.slice a4 st.ag.length c4) st.ag :: Zf PtrD.cells 5 31 (.slice a6 st.aj.length c6) st.aj :: F) w')))
theorem ZhK (w0 w : World) (a0 : Option Addr) (c0 : Nat) (a1 : Option Addr) (c1 : Nat) (a2 : Option Addr) (c2 : Nat) (a4 : Option Addr) (c4 : Nat) (a6 : Option Addr) (c6 : Nat) (st : Za) (text : ByteArray) (level : Int) (F : List Asr) (hS : St w0 (Zf Zx 1 9 (.slice a0 st.af.length c0) st.af :: Zf Zv 1 3 (.slice a1 st.aa.ac.length c1) st.aa.ac :: Zf Zv 1 3 (.slice a2 st.aa.ah.length c2) st.aa.ah :: Zf PtrD.cells 5 31 (.slice a4 st.ag.length c4) st.ag :: Zf PtrD.cells 5 31 (.slice a6 st.aj.length c6) st.aj :: F) w) (h0 : st.af.length = 64) (h1 : st.aa.ac.length = 64) (h2 : st.aa.ah.length = 64) (hs : text.size ≤ 9223372036854775806) (hr : ∀ i, 0 ≤ st.aa.ac.getD i 0 ∧ st.aa.ac.getD i 0 ≤ 900) : Calls prog 69 #[sV a0 c0 a1 c1 a2 c2 a4 c4 a6 c6 st, .string text, .int .i64 level] w (Zoe w0 st text level a0 c0 a1 c1 a2 c2 a4 c4 a6 c6 F) := by
 obtain ⟨g0, rfl, _, _, _, _⟩ := hS.rowOpen 0 rfl (by omega);obtain ⟨g1, rfl, _, _, _, _⟩ := hS.rowOpen 1 rfl (by omega);obtain ⟨g2, rfl, _, _, _, _⟩ := hS.rowOpen 2 rfl (by omega);have E := Bx.mk hS;clear hS;refine Xy func69 rfl ntmps69 [(0, .agg #[.slice (some ⟨g0, 0, none⟩) st.af.length c0, .slice (some ⟨g1, 0, none⟩) st.aa.ac.length c1, .slice (some ⟨g2, 0, none⟩) st.aa.ah.length c2, .int .i64 st.ak, .slice a4 st.ag.length c4, .int .i64 st.aw, .slice a6 st.aj.length c6, .bool st.ax]), (1, .string text), (2, .int .i64 level)] ⟨rfl, rfl, rfl, trivial⟩ rfl ?_;refine xsr ?_;refine ybx E ?_;clear E;intro w1 b1 E;refine yal z8 E ?_;clear E;intro w2 b2 E;refine yal z5 E ?_;clear E;intro w3 b3 E;refine xr 1 rfl<|xne<|xsr<|xr 1 rfl<|xne<|xsq<|xsr<|Xf 7 rfl<|Xl 2 E rfl rfl<|xr 1 rfl<|xcs 14 rfl (fun cc1=>?_) fun cc1=>?_;refine xr 3 rfl<|xne<|xcs 17 rfl (fun cc2=>?_) fun cc2=>?_;have hls : ZbN st text level = Zax st text := by unfold ZbN; rw [cc1, cc2]; rfl
 refine xct rfl<|xrl<|Xw 2 8 E rfl rfl<|xr 1 rfl ?_;refine ycB (ZiK _ st text _ (Za.reads_of E.o st _ _ _ _ _ _ _ _ _ _ 3 4 5 6 7 rfl rfl rfl rfl rfl) (by omega) (by omega) (by omega)) func90 E ?_;clear E;intro w4 E;refine xr 1 rfl<|xne<|xsq<|xsr<|xr 2 rfl<|xne<|xcs 22 rfl (fun cc3=>?_) fun cc3=>?_;have hws : Qr st text level = Ui st.aa := by unfold Qr; rw [if_pos (by rw [hls]; exact of_decide_eq_true cc3)]
 refine xct rfl ?_;have hws : Qr st text level = Ui st.aa := by unfold Qr; rw [if_pos (by rw [hls]; first | omega | (exact of_decide_eq_true (by assumption)))]
 refine xrl<|Xf 1 rfl<|Xw 2 2 E rfl rfl ?_;refine yem 3 1 E ?_;clear E;intro w5 b4 E;refine ycB (Za1 _ _ _ _ _ _ _ st.aa _ (St.rdOf E.o Zj 4 rfl) (by omega)) func91 E ?_;clear E;intro w6 E;refine xr 1 rfl<|xne<|xsq<|xsr<|xr 2 rfl<|xne<|xcs 28 rfl (fun cc4=>?_) fun cc4=>?_;have hneg := of_decide_eq_true cc4;refine xct rfl<|xsr<|Xw 2 8 E rfl rfl<|xy rfl (vb z5 rfl) ?_;refine yst E 1 ?_;clear E;intro w7 E;replace E:=E.nm;refine yst E 0 ?_;clear E;intro w8 E;replace E:=E.nm;refine xr 1 rfl<|xne<|xre<|xtr ?_;intro a J;refine Zr J results69 (J.resBox rfl (E.o.box 1 rfl) (by kernel_rfl)) (J.resBox rfl (E.o.box 0 rfl) (by kernel_rfl)) (J.res rfl) ?_;exact .inl ⟨by rw [hws]; exact hneg, rfl, E.o.tail.tail.tail⟩;obtain ⟨i, hi, hi64⟩ : ∃ i : Nat, Ui st.aa = i ∧ i < 64 := (Vf _).resolve_left (of_decide_eq_false cc4);intro a J;replace J : Fr 70 a [(1, .string text), (2, .int .i64 level), (3, .pointer (some ⟨b1, 0, none⟩)), (6, .pointer (some ⟨b2, 0, none⟩)), (7, .pointer (some ⟨b3, 0, none⟩)), (8, .bool false), (9, .int .i64 (i : Int)), (22, .bool true), (28, .bool false)] := by
   rw [← hi]; exact J.ls _
 rw [hi] at hws;revert a;refine xcf rfl<|xsk<|xet<|xsr<|xr 1 rfl<|Xf 3 rfl<|Xl 2 E rfl rfl<|xr 2 rfl ?_;refine ycB (JQ (i : Int) st.ak level text _ (by omega)) func77 E ?_;clear E;intro w9 E;refine xr 3 rfl ?_;refine yal z5 E ?_;clear E;intro w10 b5 E;refine yst E 0 ?_;clear E;intro w11 E;replace E:=E.nm;refine xr 1 rfl<|xne<|xsq<|xsr<|xr 2 rfl<|xne<|xcs 41 rfl (fun cc5=>?_) fun cc5=>?_;have hpk : YK (i : Int) st.ak level text = false := by simpa using cc5
 refine xct rfl<|xsr<|Xw 3 8 E rfl rfl<|xy rfl (vb z5 rfl) ?_;refine yst E 2 ?_;clear E;intro w12 E;replace E:=E.nm;refine yst E 1 ?_;clear E;intro w13 E;replace E:=E.nm;refine xr 1 rfl<|xne<|xre<|xtr ?_;intro a J;refine Zr J results69 (J.resBox rfl (E.o.box 2 rfl) (by kernel_rfl)) (J.resBox rfl (E.o.box 1 rfl) (by kernel_rfl)) (J.res rfl) ?_;exact .inr ⟨i, hi64, hws, .inl ⟨hpk, rfl, E.o.tail.tail.tail.tail⟩⟩;have hpk : YK (i : Int) st.ak level text = true := by simpa using cc5
 refine xcf rfl<|xsk<|xet<|xsr<|Xf 0 rfl<|Xl 3 E rfl rfl<|xr 2 rfl<|xy rfl (vx 9 i 1 rfl) ?_;intro a J;refine ZC Zo rfl rfl rfl (J.ev rfl) (J.ev rfl) (by kernel_rfl) E.o 4 rfl (by omega) (z := text) rfl rfl ?_; clear E; intro w14 E; replace E := Bx.mk E;refine Jl<|wp_seq ?_;have hrb := hr i;refine QX 12 (by kernel_rfl) (by kernel_rfl) E.o ?_;simp only [List.take_succ_cons, take_zero, List.drop_succ_cons, drop_zero];intro w15 E;replace E := Bx.mk E;refine ZD rfl J rfl rfl (yfa 1 rfl (J.ev rfl)) ?_; clear J a; intro a J;refine ZD rfl J rfl rfl (yfa 0 rfl (J.ev rfl)) ?_; clear J a; intro a J;refine ZD rfl J rfl rfl (ylo (v := .slice (some ⟨g1, 0, none⟩) st.aa.ac.length c1) rfl (J.ev rfl) (((E.o.box 3 rfl).cell 1).trans rfl)) ?_; clear J a; intro a J;refine ZD rfl J rfl rfl (Yi rfl (J.ev rfl)) ?_; clear J a; intro a J;refine ZD rfl J rfl rfl (yfa 1 rfl (J.ev rfl)) ?_; clear J a; intro a J;refine ZD rfl J rfl rfl (yfa 0 rfl (J.ev rfl)) ?_; clear J a; intro a J;refine ZD rfl J rfl rfl (ylo (v := .slice (some ⟨g1, 0, none⟩) st.aa.ac.length c1) rfl (J.ev rfl) (((E.o.box 3 rfl).cell 1).trans rfl)) ?_; clear J a; intro a J;refine ZD rfl J rfl rfl (Yi rfl (J.ev rfl)) ?_; clear J a; intro a J;refine ZD rfl J rfl rfl (ZN (e := 3) (i := i) (size := 1) rfl (J.ev rfl) (J.ev rfl) (by kernel_rfl) rfl (by omega)) ?_; clear J a; intro a J;refine ZD rfl J rfl rfl (ylo (v := .int .i64 (st.aa.ac.getD i 0)) rfl (J.ev rfl) (E.o.elem1 Zj 5 rfl (Zg (xs := st.aa.ac) (j := i) (d := 0) (by omega)) rfl)) ?_; clear J a; intro a J;refine ZD rfl J rfl rfl (XL rfl (J.ev rfl) (J.ev rfl) (Z5 (by omega))) ?_; clear J a; intro a J;refine ZD rfl J rfl rfl (ZN (e := 3) (i := i) (size := 1) rfl (J.ev rfl) (J.ev rfl) (by kernel_rfl) rfl (by omega)) ?_; clear J a; intro a J;refine wpStill_nil ?_;refine ZC Zj rfl rfl rfl (J.ev rfl) (J.ev rfl) (by kernel_rfl) E.o 5 rfl (by omega) (z := ((st.aa.ac.getD i 0) + 1)) rfl rfl ?_; clear E; intro w16 E; replace E := Bx.mk E;revert a;refine xne<|xsr<|Xf 1 rfl<|Xf 1 rfl<|Xl 3 E rfl rfl<|xr 1 rfl<|Xf 3 rfl<|Xl 3 E rfl rfl<|xy rfl (vx 3 i 1 rfl) ?_;intro a J;refine ZC Zj rfl rfl rfl (J.ev rfl) (J.ev rfl) (by kernel_rfl) E.o 6 rfl (by omega) (z := st.ak) rfl rfl ?_; clear E; intro w17 E; replace E := Bx.mk E;revert a;refine xne<|xsq ?_;refine hld [2,1] E ?_;clear E;intro w18 E M;refine Hw 0 1 8 E rfl rfl<|Hw 1 0 5 E rfl rfl ?_;refine Zq 2 ?_;refine yos 2 [2,1] M ?_;clear E M;intro w19 E M;refine Zq 3 ?_;refine yos 1 [2,1] M ?_;clear E M;intro w20 E M;refine Hp 4 E rfl ?_;refine hdn ?_;replace E := M; clear M;refine xet<|xre ?_;intro a J;refine Zr J results69 (J.resBox rfl (E.o.box 2 rfl) (by kernel_rfl)) (J.resBox rfl (E.o.box 1 rfl) (by kernel_rfl)) (J.res rfl) ?_;exact .inr ⟨i, hi64, hws, .inr ⟨hpk, rfl, E.o.tail.tail.tail.tail⟩⟩;have hws : Qr st text level = Zax st text := by unfold Qr; rw [hls, if_neg (of_decide_eq_false cc3)]
 obtain ⟨i, hi, hi64⟩ : ∃ i : Nat, Zax st text = i ∧ i < 64 := (Vf _).resolve_left (of_decide_eq_false cc3);intro a J;replace J : Fr 70 a [(1, .string text), (2, .int .i64 level), (3, .pointer (some ⟨b1, 0, none⟩)), (6, .pointer (some ⟨b2, 0, none⟩)), (7, .pointer (some ⟨b3, 0, none⟩)), (8, .bool false), (9, .int .i64 (i : Int)), (22, .bool false)] := by
   rw [← hi]; exact J.ls _
 rw [hi] at hws;revert a;refine xcf rfl<|xsk<|xet<|xsq<|xsr<|xr 2 rfl<|xne<|xcs 28 rfl (fun cc6=>?_) fun cc6=>?_
 exact absurd (of_decide_eq_true cc6) (by omega);refine xcf rfl<|xsk<|xet<|xsr<|xr 1 rfl<|Xf 3 rfl<|Xl 2 E rfl rfl<|xr 2 rfl ?_;refine ycB (JQ (i : Int) st.ak level text _ (by omega)) func77 E ?_;clear E;intro w21 E;refine xr 3 rfl ?_;refine yal z5 E ?_;clear E;intro w22 b6 E;refine yst E 0 ?_;clear E;intro w23 E;replace E:=E.nm;refine xr 1 rfl<|xne<|xsq<|xsr<|xr 2 rfl<|xne<|xcs 41 rfl (fun cc7=>?_) fun cc7=>?_;have hpk : YK (i : Int) st.ak level text = false := by simpa using cc7
 refine xct rfl<|xsr<|Xw 3 8 E rfl rfl<|xy rfl (vb z5 rfl) ?_;refine yst E 2 ?_;clear E;intro w24 E;replace E:=E.nm;refine yst E 1 ?_;clear E;intro w25 E;replace E:=E.nm;refine xr 1 rfl<|xne<|xre<|xtr ?_;intro a J;refine Zr J results69 (J.resBox rfl (E.o.box 2 rfl) (by kernel_rfl)) (J.resBox rfl (E.o.box 1 rfl) (by kernel_rfl)) (J.res rfl) ?_;exact .inr ⟨i, hi64, hws, .inl ⟨hpk, rfl, E.o.tail.tail.tail.tail⟩⟩;have hpk : YK (i : Int) st.ak level text = true := by simpa using cc7
 refine xcf rfl<|xsk<|xet<|xsr<|Xf 0 rfl<|Xl 3 E rfl rfl<|xr 2 rfl<|xy rfl (vx 9 i 1 rfl) ?_;intro a J;refine ZC Zo rfl rfl rfl (J.ev rfl) (J.ev rfl) (by kernel_rfl) E.o 4 rfl (by omega) (z := text) rfl rfl ?_; clear E; intro w26 E; replace E := Bx.mk E;refine Jl<|wp_seq ?_;have hrb := hr i;refine QX 12 (by kernel_rfl) (by kernel_rfl) E.o ?_;simp only [List.take_succ_cons, take_zero, List.drop_succ_cons, drop_zero];intro w27 E;replace E := Bx.mk E;refine ZD rfl J rfl rfl (yfa 1 rfl (J.ev rfl)) ?_; clear J a; intro a J;refine ZD rfl J rfl rfl (yfa 0 rfl (J.ev rfl)) ?_; clear J a; intro a J;refine ZD rfl J rfl rfl (ylo (v := .slice (some ⟨g1, 0, none⟩) st.aa.ac.length c1) rfl (J.ev rfl) (((E.o.box 3 rfl).cell 1).trans rfl)) ?_; clear J a; intro a J;refine ZD rfl J rfl rfl (Yi rfl (J.ev rfl)) ?_; clear J a; intro a J;refine ZD rfl J rfl rfl (yfa 1 rfl (J.ev rfl)) ?_; clear J a; intro a J;refine ZD rfl J rfl rfl (yfa 0 rfl (J.ev rfl)) ?_; clear J a; intro a J;refine ZD rfl J rfl rfl (ylo (v := .slice (some ⟨g1, 0, none⟩) st.aa.ac.length c1) rfl (J.ev rfl) (((E.o.box 3 rfl).cell 1).trans rfl)) ?_; clear J a; intro a J;refine ZD rfl J rfl rfl (Yi rfl (J.ev rfl)) ?_; clear J a; intro a J;refine ZD rfl J rfl rfl (ZN (e := 3) (i := i) (size := 1) rfl (J.ev rfl) (J.ev rfl) (by kernel_rfl) rfl (by omega)) ?_; clear J a; intro a J;refine ZD rfl J rfl rfl (ylo (v := .int .i64 (st.aa.ac.getD i 0)) rfl (J.ev rfl) (E.o.elem1 Zj 5 rfl (Zg (xs := st.aa.ac) (j := i) (d := 0) (by omega)) rfl)) ?_; clear J a; intro a J;refine ZD rfl J rfl rfl (XL rfl (J.ev rfl) (J.ev rfl) (Z5 (by omega))) ?_; clear J a; intro a J;refine ZD rfl J rfl rfl (ZN (e := 3) (i := i) (size := 1) rfl (J.ev rfl) (J.ev rfl) (by kernel_rfl) rfl (by omega)) ?_; clear J a; intro a J;refine wpStill_nil ?_;refine ZC Zj rfl rfl rfl (J.ev rfl) (J.ev rfl) (by kernel_rfl) E.o 5 rfl (by omega) (z := ((st.aa.ac.getD i 0) + 1)) rfl rfl ?_; clear E; intro w28 E; replace E := Bx.mk E;revert a;refine xne<|xsr<|Xf 1 rfl<|Xf 1 rfl<|Xl 3 E rfl rfl<|xr 1 rfl<|Xf 3 rfl<|Xl 3 E rfl rfl<|xy rfl (vx 3 i 1 rfl) ?_;intro a J;refine ZC Zj rfl rfl rfl (J.ev rfl) (J.ev rfl) (by kernel_rfl) E.o 6 rfl (by omega) (z := st.ak) rfl rfl ?_; clear E; intro w29 E; replace E := Bx.mk E;revert a;refine xne<|xsq ?_;refine hld [2,1] E ?_;clear E;intro w30 E M;refine Hw 0 1 8 E rfl rfl<|Hw 1 0 5 E rfl rfl ?_;refine Zq 2 ?_;refine yos 2 [2,1] M ?_;clear E M;intro w31 E M;refine Zq 3 ?_;refine yos 1 [2,1] M ?_;clear E M;intro w32 E M;refine Hp 4 E rfl ?_;refine hdn ?_;replace E := M; clear M;refine xet<|xre ?_;intro a J;refine Zr J results69 (J.resBox rfl (E.o.box 2 rfl) (by kernel_rfl)) (J.resBox rfl (E.o.box 1 rfl) (by kernel_rfl)) (J.res rfl) ?_;exact .inr ⟨i, hi64, hws, .inr ⟨hpk, rfl, E.o.tail.tail.tail.tail⟩⟩;have hls : ZbN st text level = -1 := by unfold ZbN; rw [cc1, cc2]; rfl
 refine xcf rfl<|xsk<|xet<|xsq<|xsr<|xr 2 rfl<|xne ?_;intro a J;replace J := J.know (k := 22) (c := true) rfl (by decide);refine U3 J rfl ?_;have hws : Qr st text level = Ui st.aa := by unfold Qr; rw [if_pos (by rw [hls]; first | omega | (exact of_decide_eq_true (by assumption)))]
 revert a;refine xrl<|Xf 1 rfl<|Xw 2 2 E rfl rfl ?_;refine yem 3 1 E ?_;clear E;intro w33 b7 E;refine ycB (Za1 _ _ _ _ _ _ _ st.aa _ (St.rdOf E.o Zj 4 rfl) (by omega)) func91 E ?_;clear E;intro w34 E;refine xr 1 rfl<|xne<|xsq<|xsr<|xr 2 rfl<|xne<|xcs 28 rfl (fun cc8=>?_) fun cc8=>?_;have hneg := of_decide_eq_true cc8;refine xct rfl<|xsr<|Xw 2 8 E rfl rfl<|xy rfl (vb z5 rfl) ?_;refine yst E 1 ?_;clear E;intro w35 E;replace E:=E.nm;refine yst E 0 ?_;clear E;intro w36 E;replace E:=E.nm;refine xr 1 rfl<|xne<|xre<|xtr ?_;intro a J;refine Zr J results69 (J.resBox rfl (E.o.box 1 rfl) (by kernel_rfl)) (J.resBox rfl (E.o.box 0 rfl) (by kernel_rfl)) (J.res rfl) ?_;exact .inl ⟨by rw [hws]; exact hneg, rfl, E.o.tail.tail.tail⟩;obtain ⟨i, hi, hi64⟩ : ∃ i : Nat, Ui st.aa = i ∧ i < 64 := (Vf _).resolve_left (of_decide_eq_false cc8);intro a J;replace J : Fr 70 a [(1, .string text), (2, .int .i64 level), (3, .pointer (some ⟨b1, 0, none⟩)), (6, .pointer (some ⟨b2, 0, none⟩)), (7, .pointer (some ⟨b3, 0, none⟩)), (8, .bool false), (9, .int .i64 (i : Int)), (22, .bool true), (28, .bool false)] := by
   rw [← hi]; exact J.ls _
 rw [hi] at hws;revert a;refine xcf rfl<|xsk<|xet<|xsr<|xr 1 rfl<|Xf 3 rfl<|Xl 2 E rfl rfl<|xr 2 rfl ?_;refine ycB (JQ (i : Int) st.ak level text _ (by omega)) func77 E ?_;clear E;intro w37 E;refine xr 3 rfl ?_;refine yal z5 E ?_;clear E;intro w38 b8 E;refine yst E 0 ?_;clear E;intro w39 E;replace E:=E.nm;refine xr 1 rfl<|xne<|xsq<|xsr<|xr 2 rfl<|xne<|xcs 41 rfl (fun cc9=>?_) fun cc9=>?_;have hpk : YK (i : Int) st.ak level text = false := by simpa using cc9
 refine xct rfl<|xsr<|Xw 3 8 E rfl rfl<|xy rfl (vb z5 rfl) ?_;refine yst E 2 ?_;clear E;intro w40 E;replace E:=E.nm;refine yst E 1 ?_;clear E;intro w41 E;replace E:=E.nm;refine xr 1 rfl<|xne<|xre<|xtr ?_;intro a J;refine Zr J results69 (J.resBox rfl (E.o.box 2 rfl) (by kernel_rfl)) (J.resBox rfl (E.o.box 1 rfl) (by kernel_rfl)) (J.res rfl) ?_;exact .inr ⟨i, hi64, hws, .inl ⟨hpk, rfl, E.o.tail.tail.tail.tail⟩⟩;have hpk : YK (i : Int) st.ak level text = true := by simpa using cc9
 refine xcf rfl<|xsk<|xet<|xsr<|Xf 0 rfl<|Xl 3 E rfl rfl<|xr 2 rfl<|xy rfl (vx 9 i 1 rfl) ?_;intro a J;refine ZC Zo rfl rfl rfl (J.ev rfl) (J.ev rfl) (by kernel_rfl) E.o 4 rfl (by omega) (z := text) rfl rfl ?_; clear E; intro w42 E; replace E := Bx.mk E;refine Jl<|wp_seq ?_;have hrb := hr i;refine QX 12 (by kernel_rfl) (by kernel_rfl) E.o ?_;simp only [List.take_succ_cons, take_zero, List.drop_succ_cons, drop_zero];intro w43 E;replace E := Bx.mk E;refine ZD rfl J rfl rfl (yfa 1 rfl (J.ev rfl)) ?_; clear J a; intro a J;refine ZD rfl J rfl rfl (yfa 0 rfl (J.ev rfl)) ?_; clear J a; intro a J;refine ZD rfl J rfl rfl (ylo (v := .slice (some ⟨g1, 0, none⟩) st.aa.ac.length c1) rfl (J.ev rfl) (((E.o.box 3 rfl).cell 1).trans rfl)) ?_; clear J a; intro a J;refine ZD rfl J rfl rfl (Yi rfl (J.ev rfl)) ?_; clear J a; intro a J;refine ZD rfl J rfl rfl (yfa 1 rfl (J.ev rfl)) ?_; clear J a; intro a J;refine ZD rfl J rfl rfl (yfa 0 rfl (J.ev rfl)) ?_; clear J a; intro a J;refine ZD rfl J rfl rfl (ylo (v := .slice (some ⟨g1, 0, none⟩) st.aa.ac.length c1) rfl (J.ev rfl) (((E.o.box 3 rfl).cell 1).trans rfl)) ?_; clear J a; intro a J;refine ZD rfl J rfl rfl (Yi rfl (J.ev rfl)) ?_; clear J a; intro a J;refine ZD rfl J rfl rfl (ZN (e := 3) (i := i) (size := 1) rfl (J.ev rfl) (J.ev rfl) (by kernel_rfl) rfl (by omega)) ?_; clear J a; intro a J;refine ZD rfl J rfl rfl (ylo (v := .int .i64 (st.aa.ac.getD i 0)) rfl (J.ev rfl) (E.o.elem1 Zj 5 rfl (Zg (xs := st.aa.ac) (j := i) (d := 0) (by omega)) rfl)) ?_; clear J a; intro a J;refine ZD rfl J rfl rfl (XL rfl (J.ev rfl) (J.ev rfl) (Z5 (by omega))) ?_; clear J a; intro a J;refine ZD rfl J rfl rfl (ZN (e := 3) (i := i) (size := 1) rfl (J.ev rfl) (J.ev rfl) (by kernel_rfl) rfl (by omega)) ?_; clear J a; intro a J;refine wpStill_nil ?_;refine ZC Zj rfl rfl rfl (J.ev rfl) (J.ev rfl) (by kernel_rfl) E.o 5 rfl (by omega) (z := ((st.aa.ac.getD i 0) + 1)) rfl rfl ?_; clear E; intro w44 E; replace E := Bx.mk E;revert a;refine xne<|xsr<|Xf 1 rfl<|Xf 1 rfl<|Xl 3 E rfl rfl<|xr 1 rfl<|Xf 3 rfl<|Xl 3 E rfl rfl<|xy rfl (vx 3 i 1 rfl) ?_;intro a J;refine ZC Zj rfl rfl rfl (J.ev rfl) (J.ev rfl) (by kernel_rfl) E.o 6 rfl (by omega) (z := st.ak) rfl rfl ?_; clear E; intro w45 E; replace E := Bx.mk E;revert a;refine xne<|xsq ?_;refine hld [2,1] E ?_;clear E;intro w46 E M;refine Hw 0 1 8 E rfl rfl<|Hw 1 0 5 E rfl rfl ?_;refine Zq 2 ?_;refine yos 2 [2,1] M ?_;clear E M;intro w47 E M;refine Zq 3 ?_;refine yos 1 [2,1] M ?_;clear E M;intro w48 E M;refine Hp 4 E rfl ?_;refine hdn ?_;replace E := M; clear M;refine xet<|xre ?_;intro a J;refine Zr J results69 (J.resBox rfl (E.o.box 2 rfl) (by kernel_rfl)) (J.resBox rfl (E.o.box 1 rfl) (by kernel_rfl)) (J.res rfl) ?_;exact .inr ⟨i, hi64, hws, .inr ⟨hpk, rfl, E.o.tail.tail.tail.tail⟩⟩;have hls : ZbN st text level = -1 := by unfold ZbN; rw [cc1]; rfl
 refine xr 3 rfl<|xne<|xcf rfl<|xsk<|xet<|xsq<|xsr<|xr 2 rfl<|xne ?_;intro a J;replace J := J.know (k := 22) (c := true) rfl (by decide);refine U3 J rfl ?_;have hws : Qr st text level = Ui st.aa := by unfold Qr; rw [if_pos (by rw [hls]; first | omega | (exact of_decide_eq_true (by assumption)))]
 revert a;refine xrl<|Xf 1 rfl<|Xw 2 2 E rfl rfl ?_;refine yem 3 1 E ?_;clear E;intro w49 b9 E;refine ycB (Za1 _ _ _ _ _ _ _ st.aa _ (St.rdOf E.o Zj 4 rfl) (by omega)) func91 E ?_;clear E;intro w50 E;refine xr 1 rfl<|xne<|xsq<|xsr<|xr 2 rfl<|xne<|xcs 28 rfl (fun cc10=>?_) fun cc10=>?_;have hneg := of_decide_eq_true cc10;refine xct rfl<|xsr<|Xw 2 8 E rfl rfl<|xy rfl (vb z5 rfl) ?_;refine yst E 1 ?_;clear E;intro w51 E;replace E:=E.nm;refine yst E 0 ?_;clear E;intro w52 E;replace E:=E.nm;refine xr 1 rfl<|xne<|xre<|xtr ?_;intro a J;refine Zr J results69 (J.resBox rfl (E.o.box 1 rfl) (by kernel_rfl)) (J.resBox rfl (E.o.box 0 rfl) (by kernel_rfl)) (J.res rfl) ?_;exact .inl ⟨by rw [hws]; exact hneg, rfl, E.o.tail.tail.tail⟩;obtain ⟨i, hi, hi64⟩ : ∃ i : Nat, Ui st.aa = i ∧ i < 64 := (Vf _).resolve_left (of_decide_eq_false cc10);intro a J;replace J : Fr 70 a [(1, .string text), (2, .int .i64 level), (3, .pointer (some ⟨b1, 0, none⟩)), (6, .pointer (some ⟨b2, 0, none⟩)), (7, .pointer (some ⟨b3, 0, none⟩)), (8, .bool false), (9, .int .i64 (i : Int)), (22, .bool true), (28, .bool false)] := by
   rw [← hi]; exact J.ls _
 rw [hi] at hws;revert a;refine xcf rfl<|xsk<|xet<|xsr<|xr 1 rfl<|Xf 3 rfl<|Xl 2 E rfl rfl<|xr 2 rfl ?_;refine ycB (JQ (i : Int) st.ak level text _ (by omega)) func77 E ?_;clear E;intro w53 E;refine xr 3 rfl ?_;refine yal z5 E ?_;clear E;intro w54 b10 E;refine yst E 0 ?_;clear E;intro w55 E;replace E:=E.nm;refine xr 1 rfl<|xne<|xsq<|xsr<|xr 2 rfl<|xne<|xcs 41 rfl (fun cc11=>?_) fun cc11=>?_;have hpk : YK (i : Int) st.ak level text = false := by simpa using cc11
 refine xct rfl<|xsr<|Xw 3 8 E rfl rfl<|xy rfl (vb z5 rfl) ?_;refine yst E 2 ?_;clear E;intro w56 E;replace E:=E.nm;refine yst E 1 ?_;clear E;intro w57 E;replace E:=E.nm;refine xr 1 rfl<|xne<|xre<|xtr ?_;intro a J;refine Zr J results69 (J.resBox rfl (E.o.box 2 rfl) (by kernel_rfl)) (J.resBox rfl (E.o.box 1 rfl) (by kernel_rfl)) (J.res rfl) ?_;exact .inr ⟨i, hi64, hws, .inl ⟨hpk, rfl, E.o.tail.tail.tail.tail⟩⟩;have hpk : YK (i : Int) st.ak level text = true := by simpa using cc11
 refine xcf rfl<|xsk<|xet<|xsr<|Xf 0 rfl<|Xl 3 E rfl rfl<|xr 2 rfl<|xy rfl (vx 9 i 1 rfl) ?_;intro a J;refine ZC Zo rfl rfl rfl (J.ev rfl) (J.ev rfl) (by kernel_rfl) E.o 4 rfl (by omega) (z := text) rfl rfl ?_; clear E; intro w58 E; replace E := Bx.mk E;refine Jl<|wp_seq ?_;have hrb := hr i;refine QX 12 (by kernel_rfl) (by kernel_rfl) E.o ?_;simp only [List.take_succ_cons, take_zero, List.drop_succ_cons, drop_zero];intro w59 E;replace E := Bx.mk E;refine ZD rfl J rfl rfl (yfa 1 rfl (J.ev rfl)) ?_; clear J a; intro a J;refine ZD rfl J rfl rfl (yfa 0 rfl (J.ev rfl)) ?_; clear J a; intro a J;refine ZD rfl J rfl rfl (ylo (v := .slice (some ⟨g1, 0, none⟩) st.aa.ac.length c1) rfl (J.ev rfl) (((E.o.box 3 rfl).cell 1).trans rfl)) ?_; clear J a; intro a J;refine ZD rfl J rfl rfl (Yi rfl (J.ev rfl)) ?_; clear J a; intro a J;refine ZD rfl J rfl rfl (yfa 1 rfl (J.ev rfl)) ?_; clear J a; intro a J;refine ZD rfl J rfl rfl (yfa 0 rfl (J.ev rfl)) ?_; clear J a; intro a J;refine ZD rfl J rfl rfl (ylo (v := .slice (some ⟨g1, 0, none⟩) st.aa.ac.length c1) rfl (J.ev rfl) (((E.o.box 3 rfl).cell 1).trans rfl)) ?_; clear J a; intro a J;refine ZD rfl J rfl rfl (Yi rfl (J.ev rfl)) ?_; clear J a; intro a J;refine ZD rfl J rfl rfl (ZN (e := 3) (i := i) (size := 1) rfl (J.ev rfl) (J.ev rfl) (by kernel_rfl) rfl (by omega)) ?_; clear J a; intro a J;refine ZD rfl J rfl rfl (ylo (v := .int .i64 (st.aa.ac.getD i 0)) rfl (J.ev rfl) (E.o.elem1 Zj 5 rfl (Zg (xs := st.aa.ac) (j := i) (d := 0) (by omega)) rfl)) ?_; clear J a; intro a J;refine ZD rfl J rfl rfl (XL rfl (J.ev rfl) (J.ev rfl) (Z5 (by omega))) ?_; clear J a; intro a J;refine ZD rfl J rfl rfl (ZN (e := 3) (i := i) (size := 1) rfl (J.ev rfl) (J.ev rfl) (by kernel_rfl) rfl (by omega)) ?_; clear J a; intro a J;refine wpStill_nil ?_;refine ZC Zj rfl rfl rfl (J.ev rfl) (J.ev rfl) (by kernel_rfl) E.o 5 rfl (by omega) (z := ((st.aa.ac.getD i 0) + 1)) rfl rfl ?_; clear E; intro w60 E; replace E := Bx.mk E;revert a;refine xne<|xsr<|Xf 1 rfl<|Xf 1 rfl<|Xl 3 E rfl rfl<|xr 1 rfl<|Xf 3 rfl<|Xl 3 E rfl rfl<|xy rfl (vx 3 i 1 rfl) ?_;intro a J;refine ZC Zj rfl rfl rfl (J.ev rfl) (J.ev rfl) (by kernel_rfl) E.o 6 rfl (by omega) (z := st.ak) rfl rfl ?_; clear E; intro w61 E; replace E := Bx.mk E;revert a;refine xne<|xsq ?_;refine hld [2,1] E ?_;clear E;intro w62 E M;refine Hw 0 1 8 E rfl rfl<|Hw 1 0 5 E rfl rfl ?_;refine Zq 2 ?_;refine yos 2 [2,1] M ?_;clear E M;intro w63 E M;refine Zq 3 ?_;refine yos 1 [2,1] M ?_;clear E M;intro w64 E M;refine Hp 4 E rfl ?_;refine hdn ?_;replace E := M; clear M;refine xet<|xre ?_;intro a J;refine Zr J results69 (J.resBox rfl (E.o.box 2 rfl) (by kernel_rfl)) (J.resBox rfl (E.o.box 1 rfl) (by kernel_rfl)) (J.res rfl) ?_;exact .inr ⟨i, hi64, hws, .inr ⟨hpk, rfl, E.o.tail.tail.tail.tail⟩⟩
theorem Zin.all {s : Zp} (h : Zin s) (i : Nat) : 0 ≤ s.ac.getD i 0 ∧ s.ac.getD i 0 ≤ 900 := by
 by_cases hi : i < 64
 ·have := h.each i hi; omega
 ·rw [show s.ac.getD i 0 = 0 by simp [List.getD, List.getElem?_eq_none (show s.ac.length ≤ i by rw [h.refs]; omega)]]; omega
open Go.Lib
structure Zb where
  aD : ByteArray
  aG : Int
def Zb.zero : Zb := ⟨ByteArray.empty, 0⟩
def Zb.cells (e : Zb) : List Value := [.string e.aD, .int .i64 e.aG]
theorem Zb.cells_len (e : Zb) : e.cells.length = 2 := rfl
def Zei (e : Zb) : Bool := Yr e.aD && inB e.aG 1 15
def Qg (l : List Zb) (i : Nat) : Bool := Zei (l.getD i Zb.zero) && (i == 0 || Op.bytesLess (l.getD (i - 1) Zb.zero).aD.toList (l.getD i Zb.zero).aD.toList)
def YC (l : List Zb) : Bool := decide (∀ i, i < l.length → Qg l i = true) && decide (l.length ≤ 12)
theorem UM {l : List Zb} (h : YC l = true) : (∀ i, i < l.length → Qg l i = true) ∧ l.length ≤ 12 := by
 unfold YC at h;rw [Bool.and_eq_true] at h;exact ⟨of_decide_eq_true h.1, of_decide_eq_true h.2⟩
theorem QU {l : List Zb} (h : ∀ i, i < l.length → Qg l i = true) (hl : l.length ≤ 12) : YC l = true := by
 unfold YC; rw [decide_eq_true h, decide_eq_true hl]; rfl
theorem Zcw {l : List Zb} {i : Nat} (hi : i < l.length) (h : Qg l i = false) : YC l = false := by
 unfold YC; rw [decide_eq_false fun k => by rw [k i hi] at h; cases h]; rfl
theorem ZiL {l : List Zb} {i : Nat} (h : Yr (l.getD i Zb.zero).aD = false) : Qg l i = false := by unfold Qg Zei; rw [h]; rfl
theorem Zl8 {l : List Zb} {i : Nat} (h : inB (l.getD i Zb.zero).aG 1 15 = false) : Qg l i = false := by unfold Qg Zei; rw [h, Bool.and_false]; rfl
theorem ZiM {l : List Zb} {i : Nat} (h0 : i ≠ 0) (h : Op.bytesLess (l.getD (i - 1) Zb.zero).aD.toList (l.getD i Zb.zero).aD.toList = false) : Qg l i = false := by
 unfold Qg;rw [h, beq_eq_false_iff_ne.2 h0]; simp
theorem ZfH {l : List Zb} {i : Nat} (h1 : Yr (l.getD i Zb.zero).aD = true) (h2 : inB (l.getD i Zb.zero).aG 1 15 = true) (h3 : i = 0 ∨ Op.bytesLess (l.getD (i - 1) Zb.zero).aD.toList (l.getD i Zb.zero).aD.toList = true) : Qg l i = true := by
 unfold Qg Zei;rw [h1, h2];rcases h3 with h3 | h3
 ·rw [h3]; rfl
 ·rw [h3]; simp
theorem ZhL {l : List Zb} {i : Nat} (h : Qg l i = true) : Yr (l.getD i Zb.zero).aD = true ∧ 1 ≤ (l.getD i Zb.zero).aG ∧ (l.getD i Zb.zero).aG ≤ 15 ∧ (i = 0 ∨ Op.bytesLess (l.getD (i - 1) Zb.zero).aD.toList (l.getD i Zb.zero).aD.toList = true) := by
 unfold Qg Zei at h;simp only [Bool.and_eq_true, Bool.or_eq_true, beq_iff_eq] at h;have := Zw h.1.2;exact ⟨h.1.1, this.1, this.2, h.2⟩
theorem Y6 {l : List Zb} (h : YC l = true) {e : Zb} (he : e ∈ l) : Yr e.aD = true ∧ 1 ≤ e.aG ∧ e.aG ≤ 15 := by
 obtain ⟨i, hi, rfl⟩ := List.getElem_of_mem he;have := ZhL ((UM h).1 i hi);rw [show l.getD i Zb.zero = l[i] by rw [getD_eq_getElem?_getD, List.getElem?_eq_getElem hi]; rfl] at this;exact ⟨this.1, this.2.1, this.2.2.1⟩
def Zej (e : Zb) : List UInt8 := e.aD.data.toList ++ 61 :: (Yx e.aG).data.toList
def J2 (l : List Zb) : List UInt8 := l.flatMap fun e => Zej e ++ [59]
def Qz (l : List Zb) : ByteArray := ⟨(J2 l).toArray⟩
theorem Za2 (l : List Zb) : (Qz l).data.toList = J2 l := rfl
theorem J3 (e : Zb) (l : List Zb) : J2 (e :: l) = Zej e ++ 59 :: J2 l := by unfold J2; rw [flatMap_cons, List.append_assoc]; rfl
theorem Zks (a b : List Zb) : J2 (a ++ b) = J2 a ++ J2 b := by unfold J2; rw [List.flatMap_append]
structure IsEnts (s : ByteArray) (l : List Zb) : Prop where
  ok : YC l = true
  is : Qz l = s
theorem ZbS {s : ByteArray} (h : Yr s = true) (c : UInt8) (hc : Jm c = false) : ∀ x ∈ s.data.toList, x ≠ c := by
 unfold Yr at h;rw [Bool.and_eq_true] at h;intro x hx e;have := List.all_eq_true.1 h.2 x hx;rw [e, hc] at this; cases this
theorem Zcx {s : ByteArray} (h : Yr s = true) : 1 ≤ s.size ∧ s.size ≤ 4 := by
 unfold Yr at h;rw [Bool.and_eq_true] at h;have := Zw h.1
 omega
theorem Zof (n : Int) (c : UInt8) (hc : digitVal c = none) : c ∉ (Yx n).data.toList := fun h => Zgt c hc n c h rfl
theorem Zek {e : Zb} (h : Yr e.aD = true) : (59 : UInt8) ∉ Zej e := by
 unfold Zej;intro hm;rcases mem_append.1 hm with hm | hm
 ·exact ZbS h 59 (by decide) 59 hm rfl
 ·rcases mem_cons.1 hm with hm | hm
  ·cases hm
  ·exact Zof _ 59 (by decide) hm
theorem ZgE {c : UInt8} : ∀ {a b x y : List UInt8}, c ∉ a → c ∉ x → a ++ c :: b = x ++ c :: y → a = x ∧ b = y
 | [], b, [], y, _, _, h => by simpa using h
 | [], b, z :: x, y, _, hx, h => by
  simp only [nil_append, cons_append, List.cons.injEq] at h;exact absurd (h.1 ▸ mem_cons_self ..) hx
 | z :: a, b, [], y, ha, _, h => by
  simp only [nil_append, cons_append, List.cons.injEq] at h;exact absurd (h.1 ▸ mem_cons_self ..) ha
 | z :: a, b, u :: x, y, ha, hx, h => by
  simp only [cons_append, List.cons.injEq] at h;obtain ⟨e1, e2⟩ := ZgE (fun hm => ha (mem_cons_of_mem _ hm)) (fun hm => hx (mem_cons_of_mem _ hm)) h.2;exact ⟨by rw [h.1, e1], e2⟩
theorem Zl9 {m n : Int} (hm : 0 ≤ m ∧ m ≤ 999999999) (hn : 0 ≤ n ∧ n ≤ 999999999) (h : Yx m = Yx n) : m = n := by
 have h1 := Yt hm;rw [h, Yt hn] at h1;have := Option.some.inj h1
 omega
theorem J4 {a b : ByteArray} (h : a.data.toList = b.data.toList) : a = b := by
 cases a; cases b
 simp only [ByteArray.mk.injEq];exact Array.toList_inj.1 h
theorem Zma {e f : Zb} (h1 : Yr e.aD = true) (h2 : Yr f.aD = true) (i1 : 0 ≤ e.aG ∧ e.aG ≤ 999999999) (i2 : 0 ≤ f.aG ∧ f.aG ≤ 999999999) (h : Zej e = Zej f) : e = f := by
 obtain ⟨a, b⟩ := ZgE (fun hm => ZbS h1 61 (by decide) 61 hm rfl) (fun hm => ZbS h2 61 (by decide) 61 hm rfl) h
 cases e; cases f
 simp only at *;rw [J4 a, Zl9 i1 i2 (J4 b)]
theorem ZfI : ∀ {l m : List Zb}, (∀ e ∈ l, Yr e.aD = true ∧ 1 ≤ e.aG ∧ e.aG ≤ 15) → (∀ e ∈ m, Yr e.aD = true ∧ 1 ≤ e.aG ∧ e.aG ≤ 15) → J2 l = J2 m → l = m
 | [], [], _, _, _ => rfl
 | [], e :: m, _, _, h => by rw [J3] at h; simp [J2] at h
 | e :: l, [], _, _, h => by rw [J3] at h; simp [J2] at h
 | e :: l, f :: m, hl, hm, h => by
  have a := hl e (mem_cons_self ..);have b := hm f (mem_cons_self ..);rw [J3, J3] at h;obtain ⟨e1, e2⟩ := ZgE (Zek a.1) (Zek b.1) h;rw [Zma a.1 b.1 (by omega) (by omega) e1, ZfI (fun x hx => hl x (mem_cons_of_mem _ hx)) (fun x hx => hm x (mem_cons_of_mem _ hx)) e2]
theorem IsEnts.one {s : ByteArray} {l m : List Zb} (h : IsEnts s l) (k : IsEnts s m) : l = m :=
 ZfI (fun _ he => Y6 h.ok he) (fun _ he => Y6 k.ok he) (congrArg (fun s : ByteArray => s.data.toList) (h.is.trans k.is.symm))
open Classical in
noncomputable def entsG (s : ByteArray) : Option (List Zb) := if h : ∃ l, IsEnts s l then some h.choose else none
theorem Zcy {s : ByteArray} {l : List Zb} (h : IsEnts s l) : entsG s = some l := by
 have he : ∃ l, IsEnts s l := ⟨l, h⟩;unfold entsG;rw [dif_pos he, he.choose_spec.one h]
theorem ZbT {s : ByteArray} (h : ∀ l, IsEnts s l → False) : entsG s = none := by
 unfold entsG;rw [dif_neg fun ⟨l, hl⟩ => h l hl]
theorem Zmb {s : ByteArray} {l : List Zb} (h : entsG s = some l) : IsEnts s l := by
 by_cases he : ∃ m, IsEnts s m
 ·obtain ⟨m, hm⟩ := he
  rw [Zcy hm] at h;obtain rfl := Option.some.inj h;exact hm
 ·rw [ZbT fun m hm => he ⟨m, hm⟩] at h; cases h
noncomputable def blobL (st : Za) : List PtrD → Option ByteArray
 | [] => some ByteArray.empty
 | p :: r => bif (Zn st p).size == 0 || (!r.isEmpty && (Zn st p).size != 128) then none else (blobL st r).map (Zn st p ++ ·)
theorem ZhM {st : Za} {p : PtrD} {r : List PtrD} (h : (Zn st p).size = 0 ∨ r ≠ [] ∧ (Zn st p).size ≠ 128) : blobL st (p :: r) = none := by
 show (bif _ then _ else _) = _;have : ((Zn st p).size == 0 || (!r.isEmpty && (Zn st p).size != 128)) = true := by
  rcases h with h | ⟨h, h2⟩
  ·rw [h]; rfl
  ·cases r with
   | nil => exact absurd rfl h
   | cons a b => simp [h2]
 rw [this]; rfl
theorem ZfJ {st : Za} {p : PtrD} {r : List PtrD} (h : (Zn st p).size ≠ 0) (h2 : r = [] ∨ (Zn st p).size = 128) : blobL st (p :: r) = (blobL st r).map (Zn st p ++ ·) := by
 show (bif _ then _ else _) = _;have : ((Zn st p).size == 0 || (!r.isEmpty && (Zn st p).size != 128)) = false := by
  rw [beq_eq_false_iff_ne.2 h, Bool.false_or];rcases h2 with h2 | h2
  ·rw [h2]; rfl
  ·rw [h2]; simp
 rw [this]; rfl
theorem ZfK {st : Za} {xs : List PtrD} {i : Nat} {b : ByteArray} (h : blobL st xs = (blobL st (xs.drop i)).map (b ++ ·)) (hi : i < xs.length) (h1 : (Zn st (xs.getD i PtrD.zero)).size ≠ 0) (h2 : i + 1 = xs.length ∨ (Zn st (xs.getD i PtrD.zero)).size = 128) : blobL st xs = (blobL st (xs.drop (i + 1))).map ((b ++ Zn st (xs.getD i PtrD.zero)) ++ ·) := by
 rw [h, Zeh hi, ZfJ h1 (by
  rcases h2 with h2 | h2
  ·exact .inl (List.drop_of_length_le (by omega))
  ·exact .inr h2), Zl4]
theorem ZfL {st : Za} {xs : List PtrD} {i : Nat} {b : ByteArray} (h : blobL st xs = (blobL st (xs.drop i)).map (b ++ ·)) (hi : i < xs.length) (h1 : (Zn st (xs.getD i PtrD.zero)).size = 0 ∨ i + 1 < xs.length ∧ (Zn st (xs.getD i PtrD.zero)).size ≠ 128) : blobL st xs = none := by
 rw [h, Zeh hi, ZhM (by
  rcases h1 with h1 | ⟨h1, h2⟩
  ·exact .inl h1
  ·exact .inr ⟨fun e => by have := congrArg List.length e; rw [List.length_drop, length_nil] at this; omega, h2⟩)]; rfl
theorem Zmc {st : Za} {xs : List PtrD} {i : Nat} {b : ByteArray} (h : blobL st xs = (blobL st (xs.drop i)).map (b ++ ·)) (hi : ¬ i < xs.length) : blobL st xs = some b := by
 rw [h, List.drop_of_length_le (by omega)];show some (b ++ ByteArray.empty) = some b;rw [show b ++ ByteArray.empty = b from J4 (by rw [Z6]; exact append_nil _)]
theorem ZiN {st : Za} {xs : List PtrD} : blobL st xs = (blobL st (xs.drop 0)).map ((⟨#[]⟩ : ByteArray) ++ ·) := by
 rw [drop_zero]
 cases blobL st xs with
 | none => rfl
 | some b => exact congrArg some (J4 (by rw [Z6]; rfl)).symm
theorem Zel {st : Za} (hr : ∀ p, (Zn st p).size ≤ 128) : ∀ {l : List PtrD} {t : ByteArray}, blobL st l = some t → t.size ≤ 128 * l.length
 | [], t, h => by obtain rfl := Option.some.inj h; exact Nat.zero_le _
 | p :: r, t, h => by
  by_cases hc : (Zn st p).size = 0 ∨ r ≠ [] ∧ (Zn st p).size ≠ 128
  ·rw [ZhM hc] at h; cases h
  ·have h1 : (Zn st p).size ≠ 0 := fun e => hc (.inl e)
   have h2 : r = [] ∨ (Zn st p).size = 128 := by
    by_cases hn : r = []
    ·exact .inl hn
    ·by_cases h3 : (Zn st p).size = 128
     ·exact .inr h3
     ·exact absurd (.inr ⟨hn, h3⟩) hc
   rw [ZfJ h1 h2] at h
   cases hb : blobL st r with
   | none => rw [hb] at h; cases h
   | some u =>
    rw [hb] at h;obtain rfl := Option.some.inj h;have := Zel hr hb;have := hr p;rw [Zl, length_cons]; omega
noncomputable def VY (st : Za) (n : Zc) : Option (List Zb) := (leavesF st n.au).bind fun l => (blobL st l).bind fun s => bif (s.size : Int) == n.av then entsG s else none
theorem ZfM {st : Za} {n : Zc} (h : leavesF st n.au = none) : VY st n = none := by unfold VY; rw [h]; rfl
theorem ZfN {st : Za} {n : Zc} {l : List PtrD} (h : leavesF st n.au = some l) (hb : blobL st l = none) : VY st n = none := by unfold VY; rw [h]; simp only [Option.bind_some]; rw [hb]; rfl
theorem ZfO {st : Za} {n : Zc} {l : List PtrD} {s : ByteArray} (h : leavesF st n.au = some l) (hb : blobL st l = some s) (hs : (s.size : Int) ≠ n.av) : VY st n = none := by
 unfold VY; rw [h]; simp only [Option.bind_some]; rw [hb];show (bif _ then _ else _) = _;rw [beq_eq_false_iff_ne.2 hs]; rfl
theorem Zem {st : Za} {n : Zc} {l : List PtrD} {s : ByteArray} (h : leavesF st n.au = some l) (hb : blobL st l = some s) (hs : (s.size : Int) = n.av) : VY st n = entsG s := by
 unfold VY; rw [h]; simp only [Option.bind_some]; rw [hb];show (bif _ then _ else _) = _;rw [beq_iff_eq.2 hs]; rfl
theorem ZjF {st : Za} {n : Zc} {es : List Zb} (h : VY st n = some es) : YC es = true := by
 cases hl : leavesF st n.au with
 | none => rw [ZfM hl] at h; cases h
 | some l =>
  cases hb : blobL st l with
  | none => rw [ZfN hl hb] at h; cases h
  | some s =>
   by_cases hs : (s.size : Int) = n.av
   ·rw [Zem hl hb hs] at h; exact (Zmb h).ok
   ·rw [ZfO hl hb hs] at h; cases h
end Go.Proofs.YtfhdmfcfcgbgeaaGreat
namespace Go.Proofs.YtfhdmfcfcgbgeaaGreat.LinkP
set_option maxHeartbeats 2000000
open Go.Proofs.Tryz
open _root_.ByteArray (size_extract)
open List (append_nil cons_append drop_zero flatMap_cons flatMap_nil getD_eq_getElem?_getD length_append length_cons length_map length_nil length_set length_take map_cons mem_append mem_cons mem_cons_of_mem mem_cons_self mem_singleton nil_append replicate take_zero)
set_option linter.unusedVariables false
set_option linter.unusedSimpArgs false
set_option maxHeartbeats 1000000
set_option maxRecDepth 100000
section
variable (kd : Nat → List Nat) (isF valid : Nat → Bool)
open Classical in
variable {kd isF valid}
end
section
variable {α : Type} {id : α → Nat} {ch : α → List α} {kd : Nat → List Nat} {isF valid : Nat → Bool} {lk : Nat → Nat}
theorem Yo {l : List Nat} {i : Nat} (h : i < l.length) : l.getD i 0 ∈ l := by
 rw [getD_eq_getElem?_getD, List.getElem?_eq_getElem h]; exact List.getElem_mem _
end
end Go.Proofs.YtfhdmfcfcgbgeaaGreat.LinkP
namespace Go.Proofs.YtfhdmfcfcgbgeaaGreat
set_option maxHeartbeats 2000000
open Go.Proofs.Tryz
open _root_.ByteArray (size_extract)
open List (append_nil cons_append drop_zero flatMap_cons flatMap_nil getD_eq_getElem?_getD length_append length_cons length_map length_nil length_set length_take map_cons mem_append mem_cons mem_cons_of_mem mem_cons_self mem_singleton nil_append replicate take_zero)
set_option linter.unusedVariables false
set_option linter.unusedSimpArgs false
set_option maxHeartbeats 1000000
set_option maxRecDepth 100000
open Go.RowKit
structure ZoH where
  aE : ByteArray
  aG : Int
noncomputable def entK (st : Za) (ns : List (Option Zc)) (k : Nat) : List Zb := match ns.getD k none with
 | none => []
 | some n => bif n.aq == 1 then [] else (VY st n).getD []
def ZgF (ns : List (Option Zc)) (k : Nat) : Bool := (ns.getD k none).isSome
open Classical in
open Classical in
theorem ZfP {st : Za} {ns : List (Option Zc)} {k : Nat} (h : ns.getD k none = none) : entK st ns k = [] := by unfold entK; rw [h]
theorem ZfQ {st : Za} {ns : List (Option Zc)} {k : Nat} {n : Zc} (h : ns.getD k none = some n) (hf : (n.aq == 1) = true) : entK st ns k = [] := by unfold entK; rw [h]; show (bif _ then _ else _) = _; rw [hf]; rfl
theorem ZhN {st : Za} {ns : List (Option Zc)} {k : Nat} {n : Zc} {es : List Zb} (h : ns.getD k none = some n) (hf : (n.aq == 1) = false) (hd : VY st n = some es) : entK st ns k = es := by unfold entK; rw [h]; show (bif _ then _ else _) = _; rw [hf, hd]; rfl
theorem ZhO {ns : List (Option Zc)} {k : Nat} {n : Zc} (h : ns.getD k none = some n) : ZgF ns k = true := by unfold ZgF; rw [h]; rfl
theorem Zkt {ns : List (Option Zc)} {k : Nat} (h : ZgF ns k = true) : k < ns.length := by
 by_cases hk : k < ns.length
 ·exact hk
 ·unfold ZgF at h
  rw [getD_eq_getElem?_getD, List.getElem?_eq_none (by omega)] at h; cases h
theorem ZgG {st : Za} {ns : List (Option Zc)} (k : Nat) : YC (entK st ns k) = true := by
 cases hn : ns.getD k none with
 | none => rw [ZfP hn]; exact QU (fun i hi => absurd hi (Nat.not_lt_zero _)) (Nat.zero_le _)
 | some n =>
  cases hf : (n.aq == 1) with
  | true => rw [ZfQ hn hf]; exact QU (fun i hi => absurd hi (Nat.not_lt_zero _)) (Nat.zero_le _)
  | false =>
   cases hd : VY st n with
   | some es => rw [ZhN hn hf hd]; exact ZjF hd
   | none =>
    unfold entK; rw [hn]; show YC (bif _ then _ else _) = _; rw [hf, hd];exact QU (fun i hi => absurd hi (Nat.not_lt_zero _)) (Nat.zero_le _)
structure ZbU (ns : List (Option Zc)) : Prop where
  len : ns.length ≤ 16
  ok : ∀ k n, ns.getD k none = some n → n.ok = true
theorem Za3 {st : Za} {t : Ze} {ns : List (Option Zc)} (h : ZgC st t = some ns) : ZbU ns := by
 obtain ⟨l, hl, ht, hlen⟩ := ZjE h;refine ⟨by have := Zao hl; omega, fun k n hk => ?_⟩;have hkl : k < l.length := by
  have := Zkt (ZhO hk)
  omega
 have := ZgD ht k hkl;rcases this with ⟨_, h2⟩ | ⟨_, m, h2, h3, _⟩
 ·rw [hk] at h2; cases h2
 ·rw [hk] at h2
  obtain rfl := Option.some.inj h2;exact (Zd9 h3).1
open Classical in
theorem Zmd (a b : ByteArray) : (a ++ b).data.toList = a.data.toList ++ b.data.toList := by simp
theorem Zku (s : ByteArray) : Q7 [] s = ⟨#[]⟩ := rfl
theorem Za4 (nms : List ByteArray) (s : ByteArray) : (Q7 nms s).data.toList = Go.Lib.join (nms.map (·.data.toList)) s.data.toList := by unfold Q7; simp
theorem Zkv (x s : ByteArray) : Q7 [x] s = x := by
 apply Yz
 rw [Za4];exact Go.Lib.join_one _ _
theorem ZiO (x : ByteArray) (r : List ByteArray) (y s : ByteArray) : Q7 ((x :: r) ++ [y]) s = (Q7 (x :: r) s ++ s) ++ y := by
 apply Yz
 rw [Zmd, Zmd, Za4, Za4, List.map_append, map_cons, cons_append, Go.Lib.join_cons, Go.Lib.join_cons];unfold Go.Lib.joinTail;rw [List.map_append, List.flatten_append];simp [List.append_assoc]
theorem ZnA {st : Za} {ns : List (Option Zc)} {k : Nat} {e : Zb} (he : e ∈ entK st ns k) : ((e.aG.toNat : Nat) : Int) = e.aG ∧ e.aD.size ≠ 0 ∧ e.aD.size ≤ 4 := by
 have h := Y6 (ZgG (st := st) (ns := ns) k) he;have h2 := Zcx h.1
 omega
end Go.Proofs.YtfhdmfcfcgbgeaaGreat
