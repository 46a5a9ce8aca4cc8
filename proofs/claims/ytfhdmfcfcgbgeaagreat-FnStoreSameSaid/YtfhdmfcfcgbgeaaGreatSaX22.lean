/- A part of the proof in YtfhdmfcfcgbgeaaGreatSaX30. -/
import Derived.Laws.IdiomRangeMap
import Derived.Scope
import Derived.Test.YtfhdmfcfcgbgeaaGreatSaX21
namespace Go.Proofs.YtfhdmfcfcgbgeaaGreat
set_option maxHeartbeats 4000000
open Go.Proofs.Tryz
open _root_.ByteArray (size_extract)
open List (append_nil drop_zero getD_eq_getElem?_getD length_append length_cons length_map length_nil length_singleton length_take map_cons mem_append mem_append_left mem_append_right mem_cons mem_cons_of_mem mem_cons_self mem_singleton nil_append replicate)
open Option (getD_some)
set_option linter.unusedVariables false
set_option linter.unusedSimpArgs false
set_option maxHeartbeats 1000000
set_option maxRecDepth 100000
open Go.RowKit
instance instPtrTr : Inhabited PtrD := ⟨PtrD.zero⟩
theorem Zz (xs : List PtrD) : ∀ u ∈ xs.flatMap PtrD.cells, u.oneCell' = true := by
 intro u hu;obtain ⟨x, _, hx⟩ := List.mem_flatMap.1 hu;exact Zkh x u hx
theorem Xj : Vu prog 27 31 5 40 := by
 obtain ⟨i0, hi, hz0, hz1, hz2⟩ := info_parts (P := prog) (e := 31) (z := .agg #[.int .i64 0, .int .i64 0, .int .i64 0, .int .i64 0, .int .i64 0]) (size := 5) (bytes := 40) (by kernel_rfl);exact ⟨Tryz.underlying27, ⟨i0, _, hi, hz0, hz1, hz2, rfl⟩, by decide⟩
theorem Vw (p : PtrD) (s : ByteArray) (w0 : World) (hs : s.size ≤ 9223372036854775806) : Calls prog 80 #[pV p, .string s] w0 fun e w' => e = .returned (.bool (XS p s)) ∧ Below w0.heap.size w0 w' := by
 have E := Bx.mk (St.start w0);refine ent func80 ntmps80 ?_;refine xsr ?_;refine ybx E ?_;clear E;intro w1 b1 E;refine xr 1 rfl<|xne<|xsq ?_;intro a J;refine Z1 (by kernel_rfl) (by kernel_rfl) E.o ?_;revert a;refine Qw 0 5 rfl rfl ?_;refine yq (fun _ E => ZQ p _) func43 ?_;refine xqr 1 rfl<|xcs 7 rfl (fun cc1=>?_) fun cc1=>?_;refine Qw 0 5 rfl rfl ?_;refine yqg (fun _ E => ZA p _) func52 ?_;refine xqr 3 rfl<|xcs 12 rfl (fun cc2=>?_) fun cc2=>?_;refine Qf 2 rfl<|Ql 0 rfl rfl<|xqr 1 rfl<|xq rfl (fun E a J=>ZO rfl (J.ev rfl) (by kernel_rfl))<|xqr 3 rfl<|xce 19 rfl (fun cc3 dcc3=>?_) fun cc3 dcc3=>?_;refine Qf 3 rfl<|Ql 0 rfl rfl<|xqr 1 rfl ?_;refine yqg (fun _ E => ZdU s _ (by omega)) func103 ?_;refine xqr 3 rfl ?_;intro a J;refine wpQuiet_nil ?_; intro w2 E; replace E := Bx.mk E;revert a;refine xet<|xre<|xb1 results80 rfl ?_;exact ⟨by simp only [XS, cc1, cc2, cc3, Bool.true_and, Bool.and_true, Bool.false_and, Bool.and_false, Bool.not_true, Bool.not_false, Bool.not_not], E.o.bel⟩;refine xqr 7 rfl ?_;intro a J;refine wpQuiet_nil ?_; intro w3 E; replace E := Bx.mk E;revert a;refine xet<|xre<|xb1 results80 rfl ?_;exact ⟨by simp only [XS, cc1, cc2, cc3, Bool.true_and, Bool.and_true, Bool.false_and, Bool.and_false, Bool.not_true, Bool.not_false, Bool.not_not], E.o.bel⟩;refine xqr 14 rfl ?_;intro a J;refine wpQuiet_nil ?_; intro w4 E; replace E := Bx.mk E;revert a;refine xet<|xre<|xb1 results80 rfl ?_;exact ⟨by simp only [XS, cc1, cc2, Bool.true_and, Bool.and_true, Bool.false_and, Bool.and_false, Bool.not_true, Bool.not_false, Bool.not_not], E.o.bel⟩;refine xqr 19 rfl ?_;intro a J;refine wpQuiet_nil ?_; intro w5 E; replace E := Bx.mk E;revert a;refine xet<|xre<|xb1 results80 rfl ?_;exact ⟨by simp only [XS, cc1, Bool.true_and, Bool.and_true, Bool.false_and, Bool.and_false, Bool.not_true, Bool.not_false, Bool.not_not], E.o.bel⟩
theorem Zns (l : List PtrD) : szs (l.map YM) := fun k => by
 by_cases hk : k < (l.map YM).length
 ·rw [getD_eq_getElem?_getD, List.getElem?_eq_getElem hk, getD_some, List.getElem_map]; exact Nat.le_trans (Zdx _) (by decide)
 ·rw [getD_eq_getElem?_getD, List.getElem?_eq_none (by omega)]; decide
theorem Zhw (s : ByteArray) (c : UInt8) (k : Nat) : ((Zd s c).getD k ByteArray.empty).size ≤ s.size := by
  have key : ∀ (l : List UInt8) (x : List UInt8), x ∈ splitL c l → x.length ≤ l.length := by
    intro l
    induction l with
    | nil => intro x hx; obtain rfl : x = [] := by simpa [splitL] using hx
             exact Nat.le_refl _
    | cons b t ih =>
      intro x hx
      by_cases hb : b = c
      · subst hb
        rw [Ju] at hx;rcases mem_cons.1 hx with rfl | hx
        · exact Nat.zero_le _
        · exact Nat.le_succ_of_le (ih x hx)
      · obtain ⟨h, r, e⟩ := Zag c t
        rw [Qv t hb e] at hx;rcases mem_cons.1 hx with rfl | hx
        · exact Nat.succ_le_succ (ih h (by rw [e]; exact mem_cons_self ..))
        · exact Nat.le_succ_of_le (ih x (by rw [e]; exact mem_cons_of_mem _ hx))
  by_cases hk : k < (Zd s c).length
  · rw [getD_eq_getElem?_getD, List.getElem?_eq_getElem hk, getD_some]
    have hm := List.getElem_mem hk;unfold Zd at hm;obtain ⟨x, hx, e⟩ := List.mem_map.1 hm;have e2 : (Zd s c)[k] = ⟨x.toArray⟩ := e.symm;rw [e2, Zi, Zi];exact key _ x hx
  · rw [getD_eq_getElem?_getD, List.getElem?_eq_none (by omega)]; exact Nat.zero_le _
theorem Zda (s : ByteArray) (c : UInt8) : (Zd s c).length ≤ s.size + 1 := by
 rw [Qp, Zi];exact Nat.succ_le_succ (List.count_le_length ..)
structure UI (s : ByteArray) (ys : List PtrD) : Prop where
  ok : ∀ p ∈ ys, p.ok = true
  is : ys.map YM = (Zd s 44).take ys.length
theorem UI.nil (s : ByteArray) : UI s [] := ⟨fun p hp => (nomatch hp), rfl⟩
theorem UI.snoc {s : ByteArray} {ys : List PtrD} (h : UI s ys) (hk : ys.length < (Zd s 44).length) {p : PtrD} (hp : p.ok = true) (ht : YM p = (Zd s 44).getD ys.length ByteArray.empty) : UI s (ys ++ [p]) := by
 refine ⟨fun q hq => ?_, ?_⟩
 ·rcases mem_append.1 hq with hq | hq
  ·exact h.ok q hq
  ·rw [mem_singleton.1 hq]; exact hp
 ·rw [length_append, length_singleton, List.take_succ_eq_append_getElem hk, List.map_append, h.is, map_cons, List.map_nil, ht, getD_eq_getElem?_getD, List.getElem?_eq_getElem hk, getD_some]
theorem UI.one {s : ByteArray} {ys l : List PtrD} (h : UI s ys) (hn : ys.length = (Zd s 44).length) (hl : IsFan s l) : l = ys := by
 refine Zjz hl.ok h.ok ?_;rw [← hl.pieces, h.is, hn, List.take_length]
theorem Znt {s : ByteArray} {k : Nat} (hk : k < (Zd s 44).length) (h : ∀ p : PtrD, p.ok = true → YM p = (Zd s 44).getD k ByteArray.empty → False) : ∀ l, ¬ IsFan s l := fun l hl => by
 have e := hl.pieces;have hk2 : k < l.length := by rw [e, length_map] at hk; exact hk
 refine h l[k] (hl.ok _ (List.getElem_mem hk2)) ?_;rw [e, getD_eq_getElem?_getD, List.getElem?_eq_getElem (by rw [length_map]; exact hk2), getD_some, List.getElem_map]
theorem ZlT {s : ByteArray} (h : (Zd s 44).length ≠ 4) : ∀ l, ¬ IsFan s l := fun l hl => by
 have e := hl.pieces;rw [e, length_map] at h;exact h hl.n
theorem UI.is_of {s : ByteArray} {ys : List PtrD} (h : UI s ys) (hn : ys.length = (Zd s 44).length) (h4 : ys.length = 4) (hs : ys.all (fun p => p.hole) = false) : IsFan s ys := by
 refine ⟨h4, h.ok, hs, ?_⟩;show Q7 (ys.map YM) ZlL = s;rw [h.is, hn, List.take_length];exact Jp s 44
structure Zaz (s : ByteArray) (ns : List Nat) : Prop where
  is : ∀ k, k < ns.length → Q9 ((Zd s 46).getD k ByteArray.empty) = some (ns.getD k 0)
theorem Zaz.nil (s : ByteArray) : Zaz s [] := ⟨fun k hk => absurd hk (Nat.not_lt_zero _)⟩
theorem Zaz.snoc {s : ByteArray} {ns : List Nat} (h : Zaz s ns) {n : Nat} (hn : Q9 ((Zd s 46).getD ns.length ByteArray.empty) = some n) : Zaz s (ns ++ [n]) := ⟨fun k hk => by
 rw [length_append, length_singleton] at hk;rcases (by omega : k < ns.length ∨ k = ns.length) with h1 | rfl
 ·rw [h.is k h1, getD_eq_getElem?_getD, getD_eq_getElem?_getD, List.getElem?_append_left h1]
 ·rw [hn]; simp⟩
theorem ZlU (ns : List Nat) (n : Nat) : ns.map (fun n : Nat => (n : Int)) ++ [(n : Int)] = (ns ++ [n]).map (fun n : Nat => (n : Int)) := by rw [List.map_append]; rfl
theorem ZoA {l : List Nat} (h : l.length = 5) : ∃ a b c d e, l = [a, b, c, d, e] := by
 match l, h with
 | [a, b, c, d, e], _ => exact ⟨a, b, c, d, e, rfl⟩
theorem Zhx {s : ByteArray} (hd : (s.toList == (⟨#[45]⟩ : ByteArray).toList) = false) {p : PtrD} (hp : p.ok = true) (ht : YM p = s) : (Zd s 46).length = 5 ∧ ∀ k, k < 5 → ∃ n : Nat, Q9 ((Zd s 46).getD k ByteArray.empty) = some n := by
 have hh := Zhp hp ht hd;have hb := PtrD.ok_all hp hh;have e := Qq hp hh;rw [ht] at e;rw [e];refine ⟨rfl, fun k hk => ?_⟩;rcases (by omega : k = 0 ∨ k = 1 ∨ k = 2 ∨ k = 3 ∨ k = 4) with rfl | rfl | rfl | rfl | rfl
 ·exact ⟨_, Yt (n := p.aA) (by omega)⟩
 ·exact ⟨_, Yt (n := p.al) (by omega)⟩
 ·exact ⟨_, Yt (n := p.av) (by omega)⟩
 ·exact ⟨_, Yt (n := p.aC) (by omega)⟩
 ·exact ⟨_, Yt (n := p.ar) (by omega)⟩
theorem Znu {s : ByteArray} {a b c d e : Nat} (h : Zaz s [a, b, c, d, e]) (h5 : (Zd s 46).length = 5) : Zd s 46 = [ZB a, ZB b, ZB c, ZB d, ZB e] ∧ a ≤ 999999999 ∧ b ≤ 999999999 ∧ c ≤ 999999999 ∧ d ≤ 999999999 ∧ e ≤ 999999999 := by
 have hz : [a, b, c, d, e].length = 5 := rfl;have h0 := X1 (h.is 0 (by omega));have h1 := X1 (h.is 1 (by omega));have h2 := X1 (h.is 2 (by omega));have h3 := X1 (h.is 3 (by omega));have h4 := X1 (h.is 4 (by omega));obtain ⟨x0, x1, x2, x3, x4, e⟩ := ZoG h5;rw [e] at h0 h1 h2 h3 h4 ⊢;have k0 : x0 = ZB a := h0.2;have k1 : x1 = ZB b := h1.2;have k2 : x2 = ZB c := h2.2;have k3 : x3 = ZB d := h3.2;have k4 : x4 = ZB _ := h4.2;exact ⟨by rw [k0, k1, k2, k3, k4]; rfl, h0.1, h1.1, h2.1, h3.1, h4.1⟩
theorem Znv {s : ByteArray} {a b c d e : Nat} (h : Zaz s [a, b, c, d, e]) (h5 : (Zd s 46).length = 5) (hp : (⟨(a : Int), (b : Int), (c : Int), (d : Int), (e : Int)⟩ : PtrD).ok = true) (hh : (⟨(a : Int), (b : Int), (c : Int), (d : Int), (e : Int)⟩ : PtrD).hole = false) : YM ⟨(a : Int), (b : Int), (c : Int), (d : Int), (e : Int)⟩ = s := by
 obtain ⟨e1, b0, b1, b2, b3, b4⟩ := Znu h h5;have e2 := Qq hp hh;have num : ∀ {n : Nat}, n ≤ 999999999 → Yx (n : Int) = ZB n := fun hn => by rw [Xc (by omega) (by omega)]; rfl
 rw [num b0, num b1, num b2, num b3, num b4, ← e1] at e2;have j1 := Jp (YM ⟨(a : Int), (b : Int), (c : Int), (d : Int), (e : Int)⟩) 46;rw [e2, Jp] at j1;exact j1.symm
theorem ZjB {s : ByteArray} {a b c d e : Nat} (h : Zaz s [a, b, c, d, e]) (h5 : (Zd s 46).length = 5) (hd : (s.toList == (⟨#[45]⟩ : ByteArray).toList) = false) {p : PtrD} (hp : p.ok = true) (ht : YM p = s) : p = ⟨(a : Int), (b : Int), (c : Int), (d : Int), (e : Int)⟩ ∧ p.hole = false := by
 have hh := Zhp hp ht hd;have hb := PtrD.ok_all hp hh;have e1 := Qq hp hh;rw [ht] at e1;have g : ∀ {k : Nat} {n m : Nat} {x : Int}, Q9 ((Zd s 46).getD k ByteArray.empty) = some n → (Zd s 46).getD k ByteArray.empty = Yx x → 0 ≤ x ∧ x ≤ 999999999 → x = (n : Int) := fun h1 h2 h3 => by rw [h2] at h1; exact (ZlK h3 h1).symm
 have hz : [a, b, c, d, e].length = 5 := rfl;have i0 := g (m := 0) (h.is 0 (by omega)) (by rw [e1]; rfl) (x := p.aA) (by omega);have i1 := g (m := 0) (h.is 1 (by omega)) (by rw [e1]; rfl) (x := p.al) (by omega);have i2 := g (m := 0) (h.is 2 (by omega)) (by rw [e1]; rfl) (x := p.av) (by omega);have i3 := g (m := 0) (h.is 3 (by omega)) (by rw [e1]; rfl) (x := p.aC) (by omega);have i4 := g (m := 0) (h.is 4 (by omega)) (by rw [e1]; rfl) (x := p.ar) (by omega);refine ⟨?_, hh⟩
 cases p
 simp only at i0 i1 i2 i3 i4;rw [i0, i1, i2, i3, i4]; rfl
theorem VT (s : ByteArray) (w0 : World) (hs : s.size ≤ 1000000) : Calls prog 169 #[.string s] w0 fun e w' => (∃ p : PtrD, p.ok = true ∧ YM p = s ∧ e = .returned (.tuple #[pV p, .bool true]) ∧ Below w0.heap.size w0 w') ∨ ((∀ p : PtrD, p.ok = true → YM p = s → False) ∧ e = .returned (.tuple #[az5, .bool false]) ∧ Below w0.heap.size w0 w') := by
 have hpm := Zda s 46;have E := Bx.mk (St.start w0);refine ent func169 ntmps169 ?_;refine xsr ?_;refine yal z5 E ?_;clear E;intro w1 b1 E;refine xr 1 rfl<|xne<|xsq<|xsr<|xr 1 rfl<|xy rfl (fun a J=>YW rfl (J.ev rfl) (J.ev rfl))<|xne<|xcs 11 rfl (fun cc1=>?_) fun cc1=>?_;refine xct rfl<|xsr<|xy rfl (vb z5 rfl) ?_;refine yst E 0 ?_;clear E;intro w2 E;replace E:=E.nm;refine xr 1 rfl<|xne<|xre<|xtr ?_;intro a J;refine ZR J results169 (J.resBox rfl (E.o.box 0 rfl) (by kernel_rfl)) (J.res rfl) ?_;exact .inl ⟨PtrD.zero, rfl, (ZV cc1).symm, rfl, E.o.bel⟩;refine xcf rfl<|xsk<|xet<|xsr<|xr 1 rfl ?_;refine yc (Jw s 46 _ (by omega)) func129 ?_;rintro _ w3 ⟨ao2, cp2, rfl, hs⟩;refine ⟨_, rfl, ?_⟩;replace E := E.ad hs;clear hs;refine xr 1 rfl<|xne<|xsq<|xsr<|xr 1 rfl<|xy rfl (vn 9 1 rfl)<|xr 1 rfl<|xne<|xcn 17 rfl (fun _ dcc2=>?_) fun _ dcc2=>?_;refine xct rfl<|xsr<|xy rfl (vb z5 rfl) ?_;refine yst E 1 ?_;clear E;intro w4 E;replace E:=E.nm;refine xr 1 rfl<|xne<|xre<|xtr ?_;intro a J;refine ZR J results169 (J.resBox rfl (E.o.box 1 rfl) (by kernel_rfl)) (J.res rfl) ?_;refine .inr ⟨fun p hp ht => ?_, rfl, E.o.bel⟩;have h5 := Zhx cc1 hp ht;have := h5.1; omega;refine xcf rfl<|xsk<|xet<|xsr ?_;refine yem 3 1 E ?_;clear E;intro w5 b3 E;refine xr 1 rfl<|xne<|xsq<|xsr<|xr 1 rfl<|xne<|xbl ?_;replace E := Bx.mk (E.o.nilRow Zv 1 3 (some ⟨b3, 0, none⟩));intro a J;refine Zt (ι := Nat) (fun k a w => ∃ (ao : Option Addr) (cp : Nat) (xs : List Int) (ns : List Nat), (k ≤ 5 ∧ xs = ns.map (fun n : Nat => (n : Int)) ∧ ns.length = k ∧ Zaz s ns) ∧ Fr 64 a [(0, .string s), (2, .pointer (some ⟨b1, 0, none⟩)), (3, .bool false), (4, .slice ao2 ((Zd s 46).length) cp2), (5, .slice ao xs.length cp), (6, .int .i64 (k : Int))] ∧ St w0 ([Zf Zv 1 3 (.slice ao xs.length cp) xs, Zf Zx 1 9 (.slice ao2 ((Zd s 46).length) cp2) (Zd s 46), boxA b1 5 31 (az5)]) w) (fun k => 5 - k) 0 ⟨_, _, [], [], ⟨Nat.zero_le _, rfl, rfl, Zaz.nil s⟩, J.ls _, E.o⟩ ?_;clear J E; clear a;rintro k a w6 ⟨ao, cp, xs, ns, ⟨hk, hxs, hnl, hnt⟩, J, E⟩;replace E := Bx.mk E;have hxl : xs.length = k := by rw [hxs, length_map]; exact hnl
 revert a;refine xsq<|xsr<|xr 2 rfl<|xne<|xcd 21 rfl (fun _ dcc3=>?_) fun _ dcc3=>?_
 refine xct rfl<|xsk<|xet<|xsq<|xbl<|xsq ?_;obtain ⟨g4, rfl, _, _, _, _⟩ := E.o.rowOpen 1 rfl (by omega);have hcap := E.o.capLe 1 rfl;refine xrl<|xr 2 rfl<|xy rfl (vx 9 k 1 rfl)<|xy rfl (fun a J=>ylo (v := .string ((Zd s 46).getD k ByteArray.empty)) rfl (J.ev rfl) (E.o.elem1 Zo 1 rfl (Zg (xs := Zd s 46) (j := k) (d := ByteArray.empty) (by omega)) rfl)) ?_;refine yc (VK ((Zd s 46).getD k ByteArray.empty) _ (by have := Zhw s 46 k; omega)) func166 ?_;rintro _ w7 (⟨n1, hg1, rfl, hb⟩ | ⟨hg1, rfl, hb⟩);refine ⟨_, rfl, ?_⟩; replace E := Bx.mk (E.o.later hb);clear hb;refine xr 5 rfl<|xne<|xsq<|xsr<|xr 2 rfl<|xne<|xcf rfl<|xsk<|xet<|xrl<|xr 2 rfl ?_;refine ybs Zv 3 1 [(n1 : Int)] E ?_;clear E;intro b5 w8 E;refine yap ZdX Zj E 1 (St.rdN E.o Zj 0 rfl) (Uc _) ?_;clear E;intro ao6 cp7 w9 E;refine xr 1 rfl<|xni<|xeb<|xet<|xrl<|xr 1 rfl<|xy rfl (vad rfl)<|xr 1 rfl<|xne ?_;have hz : xs.length + ([(n1 : Int)] : List Int).length = (xs ++ [(n1 : Int)]).length := (length_append ..).symm;intro a J;rw [hz] at E J;have hnx : xs ++ [(n1 : Int)] = (ns ++ [n1]).map (fun n : Nat => (n : Int)) := by rw [hxs]; exact ZlU ns n1
 replace E:=E.pks [3,3,3];exact ⟨k + 1, ⟨_, _, xs ++ [(n1 : Int)], ns ++ [n1], ⟨by omega, hnx, by rw [length_append, hnl]; rfl, hnt.snoc (by rw [hnl]; exact hg1)⟩, J.less _ ⟨rfl, rfl, rfl, rfl, rfl, rfl, trivial⟩, (E.o.erase 3)⟩, (by omega)⟩;refine ⟨_, rfl, ?_⟩; replace E := Bx.mk (E.o.later hb);clear hb;refine xr 5 rfl<|xne<|xsq<|xsr<|xr 2 rfl<|xne<|xct rfl<|xsr<|xy rfl (vb z5 rfl) ?_;refine yst E 2 ?_;clear E;intro w10 E;replace E:=E.nm;refine xr 1 rfl<|xne<|xre<|xtr<|xbr<|xtr<|xtr<|xbr<|xtr ?_;intro a J;refine ZR J results169 (J.resBox rfl (E.o.box 2 rfl) (by kernel_rfl)) (J.res rfl) ?_;refine .inr ⟨fun p hp ht => ?_, rfl, E.o.bel⟩;have h5 := Zhx cc1 hp ht;obtain ⟨n, hn⟩ := h5.2 k (by omega); rw [hg1] at hn; cases hn;refine xcf rfl<|xex<|xtx<|xtx<|xbh<|xet<|xsq ?_;have hk5 : ns.length = 5 := by omega
 obtain ⟨m0, m1, m2, m3, m4, rfl⟩ := ZoA hk5;obtain rfl : xs = [(m0 : Int), (m1 : Int), (m2 : Int), (m3 : Int), (m4 : Int)] := hxs;intro a J;replace J : Fr 64 a [(0, .string s), (2, .pointer (some ⟨b1, 0, none⟩)), (3, .bool false), (4, .slice ao2 ((Zd s 46).length) cp2), (5, .slice ao 5 cp), (21, .bool false)] := J.ls _;obtain ⟨g8, rfl, _, _, _, _⟩ := E.o.rowOpen 0 rfl (Nat.succ_pos _);have hcap := E.o.capLe 0 rfl;revert a;refine hld [] E ?_;clear E;intro w11 E M;refine Hp 0 E rfl<|xhy 1 E.o rfl rfl (fun E=>vx 3 0 1 rfl)<|xhy 2 E.o rfl rfl (fun E=>ve Zj E 0 0 rfl rfl rfl rfl)<|Hp 3 E rfl<|xhy 4 E.o rfl rfl (fun E=>vx 3 1 1 rfl)<|xhy 5 E.o rfl rfl (fun E=>ve Zj E 0 1 rfl rfl rfl rfl)<|Hp 6 E rfl<|xhy 7 E.o rfl rfl (fun E=>vx 3 2 1 rfl)<|xhy 8 E.o rfl rfl (fun E=>ve Zj E 0 2 rfl rfl rfl rfl)<|Hp 9 E rfl<|xhy 10 E.o rfl rfl (fun E=>vx 3 3 1 rfl)<|xhy 11 E.o rfl rfl (fun E=>ve Zj E 0 3 rfl rfl rfl rfl)<|Hp 12 E rfl<|xhy 13 E.o rfl rfl (fun E=>vx 3 4 1 rfl)<|xhy 14 E.o rfl rfl (fun E=>ve Zj E 0 4 rfl rfl rfl rfl)<|xhy 15 E.o rfl rfl (fun E=>vb [.int .i64 (m0 : Int), .int .i64 (m1 : Int), .int .i64 (m2 : Int), .int .i64 (m3 : Int), .int .i64 (m4 : Int)] rfl) ?_;refine Zq 16 ?_;refine yoa z5 E M ?_;clear E M;intro w12 b9 E M;refine Zq 17 ?_;refine yos 0 [0] M ?_;clear E M;intro w13 E M;refine hdn ?_;replace E := M; clear M;refine xet<|xsq<|xsr<|Xw 0 5 E rfl rfl ?_;refine ycB (ZQ (⟨(m0 : Int), (m1 : Int), (m2 : Int), (m3 : Int), (m4 : Int)⟩ : PtrD) _) func43 E ?_;clear E;intro w14 E;refine xr 2 rfl<|xcs 58 rfl (fun cc4=>?_) fun cc4=>?_;refine xr 3 rfl<|xne<|xct rfl<|xsr<|xy rfl (vb z5 rfl) ?_;refine yst E 3 ?_;clear E;intro w15 E;replace E:=E.nm;refine xr 1 rfl<|xne<|xre<|xtr ?_;intro a J;refine ZR J results169 (J.resBox rfl (E.o.box 3 rfl) (by kernel_rfl)) (J.res rfl) ?_;refine .inr ⟨fun p hp ht => ?_, rfl, E.o.bel⟩;obtain ⟨e1, e2⟩ := ZjB hnt (by omega) cc1 hp ht; rw [e1] at hp e2;simp [hp, e2] at cc4;refine Xw 0 5 E rfl rfl ?_;refine Jg (ZA (⟨(m0 : Int), (m1 : Int), (m2 : Int), (m3 : Int), (m4 : Int)⟩ : PtrD) _) func52 E ?_;clear E;intro w16 E;refine xr 1 rfl<|xne<|xcs 61 rfl (fun cc5=>?_) fun cc5=>?_;refine xct rfl<|xsr<|xy rfl (vb z5 rfl) ?_;refine yst E 3 ?_;clear E;intro w17 E;replace E:=E.nm;refine xr 1 rfl<|xne<|xre<|xtr ?_;intro a J;refine ZR J results169 (J.resBox rfl (E.o.box 3 rfl) (by kernel_rfl)) (J.res rfl) ?_;refine .inr ⟨fun p hp ht => ?_, rfl, E.o.bel⟩;obtain ⟨e1, e2⟩ := ZjB hnt (by omega) cc1 hp ht; rw [e1] at hp e2;simp [hp, e2] at cc5;refine xcf rfl<|xsk<|xet<|xsr<|Xw 0 5 E rfl rfl ?_;refine yst E 3 ?_;clear E;intro w18 E;replace E:=E.nm;refine xr 1 rfl<|xne<|xre ?_;intro a J;refine ZR J results169 (J.resBox rfl (E.o.box 3 rfl) (by kernel_rfl)) (J.res rfl) ?_;exact .inl ⟨(⟨(m0 : Int), (m1 : Int), (m2 : Int), (m3 : Int), (m4 : Int)⟩ : PtrD), by simpa using cc4, Znv hnt (by omega) (by simpa using cc4) (by simpa using cc5), rfl, E.o.bel⟩
theorem Zeb (s : ByteArray) (w0 : World) (hs : s.size ≤ 1000000) : Calls prog 170 #[.string s] w0 fun e w' => (∃ l, IsFan s l ∧ ∃ ao cp, e = .returned (.tuple #[.slice ao l.length cp, .bool true]) ∧ St w0 [Zf PtrD.cells 5 31 (.slice ao l.length cp) l] w') ∨ ((∀ l, ¬ IsFan s l) ∧ ∃ ao, e = .returned (.tuple #[.slice ao 0 0, .bool false]) ∧ Below w0.heap.size w0 w') := by
 have hpm := Zda s 44;have E := Bx.mk (St.start w0);refine ent func170 ntmps170 ?_;refine xsr<|xr 2 rfl<|xne<|xsr<|xr 1 rfl ?_;refine yc (Jw s 44 _ (by omega)) func129 ?_;rintro _ w1 ⟨ao1, cp1, rfl, hs⟩;refine ⟨_, rfl, ?_⟩;replace E := E.ad hs;clear hs;refine xr 1 rfl<|xne<|xsr ?_;refine yem 31 5 E ?_;clear E;intro w2 b2 E;refine xr 1 rfl<|xne<|xsr<|xr 1 rfl<|xne<|xsq<|xsr<|xr 1 rfl<|xne<|xbl ?_;replace E := Bx.mk (E.o.nilRow PtrD.cells 5 31 (some ⟨b2, 0, none⟩));intro a J;refine Zt (ι := Nat) (fun k a w => ∃ (ao : Option Addr) (cp : Nat) (ys : List PtrD), (k ≤ (Zd s 44).length ∧ ys.length = k ∧ UI s ys) ∧ Fr 49 a [(0, .string s), (4, .slice ao1 ((Zd s 44).length) cp1), (5, .slice ao ys.length cp), (7, .int .i64 (k : Int)), (6, .bool (!ys.all (fun p => p.hole)))] ∧ St w0 ([Zf PtrD.cells 5 31 (.slice ao ys.length cp) ys, Zf Zx 1 9 (.slice ao1 ((Zd s 44).length) cp1) (Zd s 44)]) w) (fun k => (Zd s 44).length - k) 0 ⟨_, _, [], ⟨Nat.zero_le _, rfl, UI.nil s⟩, J.ls _, E.o⟩ ?_;clear J E; clear a;rintro k a w3 ⟨ao, cp, ys, ⟨hk, hyl, hft⟩, J, E⟩;replace E := Bx.mk E;revert a;refine xsq<|xsr<|xr 2 rfl<|xy rfl (vn 9 1 rfl)<|xr 1 rfl<|xne<|xcd 16 rfl (fun cc1 dcc1=>?_) fun cc1 dcc1=>?_
 refine xct rfl<|xsk<|xet<|xsq<|xbl<|xsq ?_;obtain ⟨g3, rfl, _, _, _, _⟩ := E.o.rowOpen 1 rfl (by omega);have hcap := E.o.capLe 1 rfl;refine xrl<|xr 2 rfl<|xy rfl (vx 9 k 1 rfl)<|xy rfl (fun a J=>ylo (v := .string ((Zd s 44).getD k ByteArray.empty)) rfl (J.ev rfl) (E.o.elem1 Zo 1 rfl (Zg (xs := Zd s 44) (j := k) (d := ByteArray.empty) (by omega)) rfl)) ?_;refine yc (VT ((Zd s 44).getD k ByteArray.empty) _ (by have := Zhw s 44 k; omega)) func169 ?_;rintro _ w4 (⟨p, hpo, hpt, rfl, hb⟩ | ⟨hpn, rfl, hb⟩);refine ⟨_, rfl, ?_⟩; replace E := Bx.mk (E.o.later hb);clear hb;refine xr 3 rfl ?_;refine yal z5 E ?_;clear E;intro w5 b4 E;refine yst E 0 ?_;clear E;intro w6 E;replace E:=E.nm;refine xr 1 rfl<|xne<|xsq<|xsr<|xr 2 rfl<|xne<|xcf rfl<|xsk<|xet<|xsr<|xr 2 rfl<|xcs 31 rfl (fun cc2=>?_) fun cc2=>?_;refine xr 5 rfl<|xne<|xrl<|xr 1 rfl<|Xw 0 5 E rfl rfl ?_;refine ybs PtrD.cells 31 5 [p] E ?_;clear E;intro b5 w7 E;refine yap Xj PtrD.cells_len E 2 (St.rdN E.o PtrD.cells_len 0 rfl) (Zz _) ?_;clear E;intro ao6 cp7 w8 E;refine xr 1 rfl<|xni<|xeb<|xet<|xrl<|xr 1 rfl<|xy rfl (vad rfl)<|xr 1 rfl<|xne ?_;have hz : ys.length + ([p]).length = (ys ++ ([p])).length := (length_append ..).symm;intro a J;rw [hz] at E J;have hlen : (ys ++ ([p])).length = k + 1 := by rw [length_append, hyl]; rfl
 have hft2 : UI s (ys ++ ([p])) := hft.snoc (by omega) hpo (by rw [hyl]; exact hpt);have hsm : (true : Bool) = (!(ys ++ [p]).all (fun p => p.hole)) := by rw [List.all_append]; skip; simp [cc1, cc2]
 replace E:=E.pks [3,3];exact ⟨k + 1, ⟨_, _, ys ++ ([p]), ⟨by omega, hlen, hft2⟩, J.less _ ⟨rfl, rfl, rfl, rfl, (congrArg (fun z => some (Value.bool z)) hsm), trivial⟩, (E.o.erS [3,2])⟩, (by omega)⟩;refine Xw 0 5 E rfl rfl ?_;refine Jg (ZA p _) func52 E ?_;clear E;intro w9 E;refine xr 3 rfl<|xne<|xrl<|xr 1 rfl<|Xw 0 5 E rfl rfl ?_;refine ybs PtrD.cells 31 5 [p] E ?_;clear E;intro b8 w10 E;refine yap Xj PtrD.cells_len E 2 (St.rdN E.o PtrD.cells_len 0 rfl) (Zz _) ?_;clear E;intro ao9 cp10 w11 E;refine xr 1 rfl<|xni<|xeb<|xet<|xrl<|xr 1 rfl<|xy rfl (vad rfl)<|xr 1 rfl<|xne ?_;have hz : ys.length + ([p]).length = (ys ++ ([p])).length := (length_append ..).symm;intro a J;rw [hz] at E J;have hlen : (ys ++ ([p])).length = k + 1 := by rw [length_append, hyl]; rfl
 have hft2 : UI s (ys ++ ([p])) := hft.snoc (by omega) hpo (by rw [hyl]; exact hpt);have hsm : (!p.hole : Bool) = (!(ys ++ [p]).all (fun p => p.hole)) := by rw [List.all_append]; skip; simp [cc1, cc2]
 replace E:=E.pks [3,3];exact ⟨k + 1, ⟨_, _, ys ++ ([p]), ⟨by omega, hlen, hft2⟩, J.less _ ⟨rfl, rfl, rfl, rfl, (congrArg (fun z => some (Value.bool z)) hsm), trivial⟩, (E.o.erS [3,2])⟩, (by omega)⟩;refine ⟨_, rfl, ?_⟩; replace E := Bx.mk (E.o.later hb);clear hb;refine xr 3 rfl ?_;refine yal z5 E ?_;clear E;intro w12 b11 E;refine yst E 0 ?_;clear E;intro w13 E;replace E:=E.nm;refine xr 1 rfl<|xne<|xsq<|xsr<|xr 2 rfl<|xne<|xct rfl<|xsr ?_;refine yem 31 5 E ?_;clear E;intro w14 b12 E;refine xr 2 rfl<|xne<|xre<|xtr<|xbr<|xtr<|xtr<|xbr<|xtr<|xb2 results170 rfl rfl ?_;exact .inr ⟨Znt (k := k) (by omega) hpn, _, rfl, E.o.bel⟩;refine xcf rfl<|xex<|xtx<|xtx<|xbh<|xet<|xsq<|xsr<|xr 1 rfl<|xy rfl (vn 31 5 rfl)<|xr 2 rfl<|xcn 43 rfl (fun _ dcc3=>?_) fun _ dcc3=>?_;refine xr 3 rfl<|xne<|xct rfl<|xsr ?_;refine yem 31 5 E ?_;clear E;intro w15 b13 E;refine xr 2 rfl<|xne<|xre<|xtr<|xb2 results170 rfl rfl ?_;exact .inr ⟨ZlT (by omega), _, rfl, E.o.bel⟩;refine xr 3 rfl<|xne<|xcs 46 rfl (fun cc4=>?_) fun cc4=>?_;refine xct rfl<|xsr ?_;refine yem 31 5 E ?_;clear E;intro w16 b14 E;refine xr 2 rfl<|xne<|xre<|xtr<|xb2 results170 rfl rfl ?_;exact .inr ⟨fun l hl => (by have e := hft.one (by omega) hl; subst e; have h2 := hl.some; simp [h2] at cc4), _, rfl, E.o.bel⟩;refine xcf rfl<|xsk<|xet<|xsr<|xr 3 rfl<|xne<|xre<|xb2 results170 rfl rfl ?_;have hfan : IsFan s ys := hft.is_of (by omega) (by omega) (by simpa using cc4);exact .inl ⟨ys, hfan, _, _, rfl, (E.o.erase 1)⟩
structure Xu (st : Za) : Prop where
  n : st.af.length = 64
  z : ∀ i, (st.af.getD i ByteArray.empty).size ≤ 1000000
theorem ZbJ {st : Za} (h : Xu st) (p : PtrD) : (Zn st p).size ≤ 1000000 := by
 unfold Zn
 cases p.hole
 ·cases XS p (Yk st p)
  ·exact Nat.zero_le _
  ·exact h.z _
 ·exact Nat.zero_le _
theorem JY (a0 : Option Addr) (c0 : Nat) (a1 : Option Addr) (c1 : Nat) (a2 : Option Addr) (c2 : Nat) (a4 : Option Addr) (c4 : Nat) (a6 : Option Addr) (c6 : Nat) (st : Za) (p : PtrD) (w0 : World) (hR : Rd Zx 1 w0 a0 st.af.length st.af) (hrow : Xu st) (hp : p.ok = true) : Calls prog 44 #[sV a0 c0 a1 c1 a2 c2 a4 c4 a6 c6 st, pV p] w0 fun e w' => e = .returned (.tuple #[.string (Zn st p), .bool (XM st p)]) ∧ Below w0.heap.size w0 w' := by
 have HR := Bx.mk hR; clear hR;have E := Bx.mk (St.start w0);refine Xy func44 rfl ntmps44 [(0, sV a0 c0 a1 c1 a2 c2 a4 c4 a6 c6 st), (1, pV p)] ⟨rfl, rfl, trivial⟩ rfl ?_; intro a J;have hrn := hrow.n; obtain ⟨g0, o0, r0⟩ := HR.out.opn; have R0 := Bx.mk r0; clear r0;revert a;refine xsr ?_;refine ybx E ?_;clear E;intro w1 b1 E;refine ybx E ?_;clear E;intro w2 b2 E;refine xr 2 rfl<|xne<|xsq<|xsr<|Xw 0 5 E rfl rfl ?_;refine ycB (ZA p _) func52 E ?_;clear E;intro w3 E;refine xne<|xcs 7 rfl (fun cc1=>?_) fun cc1=>?_;refine xct rfl<|xsr<|xr 2 rfl<|xne<|xre<|xtr<|xb2 results44 rfl rfl ?_;exact ⟨by rw [Y5 cc1, ZaQ cc1] <;> rfl, E.o.bel⟩;have hpb := PtrD.ok_all hp cc1;refine xcf rfl<|xsk<|xet<|xsq<|xsq ?_;intro a J;refine Z1 (by kernel_rfl) (by kernel_rfl) E.o ?_;revert a;refine Qw 0 5 rfl rfl<|Qf 0 rfl<|Ql 1 rfl rfl<|Qf 0 rfl<|Ql 0 rfl rfl<|xq rfl (fun E a J=>Qb (e := 9) (i := p.aA.toNat) (size := 1) rfl (J.ev rfl) (J.ev rfl) (by kernel_rfl) (by omega) (by omega) (R0.out.ao p.aA.toNat (by omega)))<|xq rfl (fun E a J=>ylo (v := .string (st.af.getD p.aA.toNat ByteArray.empty)) rfl (J.ev rfl) (R0.out.elem1 E (Zg (xs := st.af) (j := p.aA.toNat) (d := ByteArray.empty) (by omega)) rfl)) ?_;refine yq (v := .bool (XS p (Yk st p))) (fun _ E => Vw p (st.af.getD p.aA.toNat ByteArray.empty) _ (by have := hrow.z p.aA.toNat; omega)) func80 ?_;refine xqr 1 rfl ?_;intro a J;refine wpQuiet_nil ?_; intro w4 E; replace E := Bx.mk E;revert a;refine xet<|xcs 16 rfl (fun cc2=>?_) fun cc2=>?_
 refine xct rfl<|xsr<|xr 2 rfl<|xne<|xre<|xtr<|xb2 results44 rfl rfl ?_;have hf := cc2; simp only [Bool.not_eq_true', Bool.not_eq_false'] at hf;exact ⟨by rw [Zhs cc1 hf, QF cc1, hf] <;> rfl, E.o.bel⟩;refine xcf rfl<|xsk<|xet<|xsr<|Xf 0 rfl<|Xl 1 E rfl rfl<|Xf 0 rfl<|Xl 0 E rfl rfl<|xy rfl (fun a J=>Qb (e := 9) (i := p.aA.toNat) (size := 1) rfl (J.ev rfl) (J.ev rfl) (by kernel_rfl) (by omega) (by omega) (R0.out.ao p.aA.toNat (by omega)))<|xy rfl (fun a J=>ylo (v := .string (st.af.getD p.aA.toNat ByteArray.empty)) rfl (J.ev rfl) (R0.out.elem1 E.o (Zg (xs := st.af) (j := p.aA.toNat) (d := ByteArray.empty) (by omega)) rfl))<|xr 2 rfl<|xne<|xre<|xb2 results44 rfl rfl ?_;have hf := cc2; simp only [Bool.not_eq_true', Bool.not_eq_false'] at hf;exact ⟨by rw [Jx cc1 hf, QF cc1, hf] <;> rfl, E.o.bel⟩
theorem Um (n : Nat) (hn : n ≤ 100) (w0 : World) : Calls prog 160 #[.int .i64 (n : Int)] w0 fun e w' => ∃ ao cp, e = .returned (.slice ao n cp) ∧ St w0 [Zf PtrD.cells 5 31 (.slice ao n cp) (replicate n PtrD.zero)] w' := by
 have E := Bx.mk (St.start w0);refine ent func160 ntmps160 ?_;refine xsr<|xr 1 rfl<|xne<|xsr<|xr 1 rfl ?_;intro a J;refine ZlB (enc := PtrD.cells) (n := n) rfl J rfl rfl rfl Xj (J.ev rfl) (J.ev rfl) (by omega) (by omega) (by omega) (by unfold maxLen; omega) PtrD.zero (u := az5) (by kernel_rfl) rfl rfl E.o ?_; clear J E a; intro b1 a w1 J E; replace E := Bx.mk E;revert a;refine xr 1 rfl<|xne<|xre<|xb1 results160 rfl ?_;exact ⟨_, _, rfl, E.o⟩
theorem Un (a0 : Option Addr) (c0 : Nat) (a1 : Option Addr) (c1 : Nat) (a2 : Option Addr) (c2 : Nat) (a4 : Option Addr) (c4 : Nat) (a6 : Option Addr) (c6 : Nat) (st : Za) (p : PtrD) (level : Int) (w0 : World) (hR : Rd Zx 1 w0 a0 st.af.length st.af) (hrow : Xu st) : Calls prog 156 #[sV a0 c0 a1 c1 a2 c2 a4 c4 a6 c6 st, pV p, .int .i64 level] w0 fun e w' => (∃ l, kidsS st p level = some l ∧ ∃ ao cp, e = .returned (.tuple #[.slice ao l.length cp, .bool true]) ∧ St w0 [Zf PtrD.cells 5 31 (.slice ao l.length cp) l] w') ∨ (kidsS st p level = none ∧ ∃ ao n cp, e = .returned (.tuple #[.slice ao n cp, .bool false]) ∧ Below w0.heap.size w0 w') := by
 have HR := Bx.mk hR; clear hR;have E := Bx.mk (St.start w0);refine ent func156 ntmps156 ?_;refine xsr ?_;refine ybx E ?_;clear E;intro w1 b1 E;refine ybx E ?_;clear E;intro w2 b2 E;refine xr 2 rfl<|xne<|xsq<|xsr<|Xw 0 5 E rfl rfl ?_;refine ycB (ZA p _) func52 E ?_;clear E;intro w3 E;refine xne<|xcs 14 rfl (fun cc1=>?_) fun cc1=>?_;refine xct rfl<|xsr ?_;refine yc (Um 4 (by omega) _) func160 ?_;rintro _ w4 ⟨ao3, cp3, rfl, hs⟩;refine ⟨_, rfl, ?_⟩;replace E := E.ad hs;clear hs;refine xr 2 rfl<|xne<|xre<|xtr<|xb2 results156 rfl rfl ?_;exact .inl ⟨YB, JT cc1, _, _, rfl, (E.o.erS [2,1])⟩;refine xcf rfl<|xsk<|xet<|xsq<|xsr<|Xw 0 5 E rfl rfl ?_;refine ycB (ZQ p _) func43 E ?_;clear E;intro w5 E;refine xr 2 rfl<|xcs 19 rfl (fun cc2=>?_) fun cc2=>?_;refine xr 12 rfl<|xne<|xct rfl<|xsr ?_;refine yem 31 5 E ?_;clear E;intro w6 b4 E;refine xr 2 rfl<|xne<|xre<|xtr<|xb2 results156 rfl rfl ?_;have hbad : (p.ok && ((p.ar == level) && decide (p.al ≤ st.ak))) = false := by
   have hl : p.ok = false := (by simpa using cc2); rw [hl]; rfl
 exact .inr ⟨VN cc1 hbad, _, _, _, rfl, E.o.bel⟩;have hp : p.ok = true := by simpa using cc2
 refine Xf 4 rfl<|Xl 0 E rfl rfl<|xr 4 rfl<|xcn 25 rfl (fun cc3 dcc3=>?_) fun cc3 dcc3=>?_;refine xr 6 rfl<|xne<|xct rfl<|xsr ?_;refine yem 31 5 E ?_;clear E;intro w7 b5 E;refine xr 2 rfl<|xne<|xre<|xtr<|xb2 results156 rfl rfl ?_;have hbad : (p.ok && ((p.ar == level) && decide (p.al ≤ st.ak))) = false := by
   have hl : (p.ar == level) = false := (by simpa using cc3); rw [hl]; simp
 exact .inr ⟨VN cc1 hbad, _, _, _, rfl, E.o.bel⟩;refine Xf 1 rfl<|Xl 0 E rfl rfl<|Xf 3 rfl<|Xl 1 E rfl rfl<|xr 2 rfl<|xne<|xcd 31 rfl (fun _ dcc4=>?_) fun _ dcc4=>?_;refine xct rfl<|xsr ?_;refine yem 31 5 E ?_;clear E;intro w8 b6 E;refine xr 2 rfl<|xne<|xre<|xtr<|xb2 results156 rfl rfl ?_;have hbad : (p.ok && ((p.ar == level) && decide (p.al ≤ st.ak))) = false := by
   rw [decide_eq_false (show ¬ p.al ≤ st.ak by omega)]; simp
 exact .inr ⟨VN cc1 hbad, _, _, _, rfl, E.o.bel⟩;refine xcf rfl<|xsk<|xet<|xsr<|Xw 1 8 E rfl rfl<|Xw 0 5 E rfl rfl ?_;refine ycB (JY a0 c0 a1 c1 a2 c2 a4 c4 a6 c6 st p _  (HR.out.below E.o.bel) hrow hp) func44 E ?_;clear E;intro w9 E;refine xr 5 rfl<|xne<|xsq<|xsr<|xr 2 rfl<|xne<|xcs 40 rfl (fun cc5=>?_) fun cc5=>?_;refine xct rfl<|xsr ?_;refine yem 31 5 E ?_;clear E;intro w10 b7 E;refine xr 2 rfl<|xne<|xre<|xtr<|xb2 results156 rfl rfl ?_;have hks := JU (n := level) hp (show p.al ≤ st.ak by omega);exact .inr ⟨hks.trans (Zc6 cc1 (by simpa using cc5)), _, _, _, rfl, E.o.bel⟩;refine xcf rfl<|xsk<|xet<|xsr<|xr 1 rfl ?_;refine yc (Zeb (Zn st p) _ (ZbJ hrow p)) func170 ?_;rintro _ w11 (⟨l, hfan, ao, cp, rfl, hs1⟩ | ⟨hno, ae, rfl, hb⟩);refine ⟨_, rfl, ?_⟩; replace E := E.ad hs1;clear hs1;refine xr 5 rfl<|xne<|xsq<|xsr<|xr 1 rfl<|xne<|xbl ?_;intro a J;refine Zt (ι := Nat) (fun k a w => (k ≤ l.length ∧ ∀ i, i < k → decide (p.al < (l.getD i PtrD.zero).al) = false) ∧ Fr 64 a [(0, sV a0 c0 a1 c1 a2 c2 a4 c4 a6 c6 st), (1, pV p), (2, .int .i64 level), (3, .pointer (some ⟨b1, 0, none⟩)), (4, .pointer (some ⟨b2, 0, none⟩)), (6, .slice none 0 0), (7, .bool false), (10, .slice ao l.length cp), (11, .bool true), (12, .int .i64 (k : Int))] ∧ St w0 ([Zf PtrD.cells 5 31 (.slice ao l.length cp) l, boxA b2 5 31 (pV p), boxA b1 8 29 (sV a0 c0 a1 c1 a2 c2 a4 c4 a6 c6 st)]) w) (fun k => l.length - k) 0 ⟨⟨Nat.zero_le _, fun i hi => absurd hi (Nat.not_lt_zero _)⟩, J.ls _, E.o⟩ ?_;clear J E; clear a;rintro k a w12 ⟨⟨hk, hno⟩, J, E⟩;replace E := Bx.mk E;have hl4 := hfan.n;revert a;refine xsq<|xsr<|xr 2 rfl<|xy rfl (vn 31 5 rfl)<|xr 1 rfl<|xne<|xcd 50 rfl (fun _ dcc6=>?_) fun _ dcc6=>?_
 refine xct rfl<|xsk<|xet<|xsq<|xbl<|xsq ?_;obtain ⟨g8, rfl, _, _, _, _⟩ := E.o.rowOpen 0 rfl (by omega);intro a J;refine Z1 (by kernel_rfl) (by kernel_rfl) E.o ?_;revert a;refine xqr 2 rfl<|xq rfl (fun E=>vx 31 k 5 rfl)<|Qf 1 rfl<|xq rfl (fun E a J=>ylo (v := .int .i64 ((l.getD k PtrD.zero).al)) rfl (J.ev rfl) (E.elem PtrD.cells_len 0 rfl (Zg (xs := l) (j := k) (d := PtrD.zero) (by omega)) 1 _ rfl))<|Qf 1 rfl<|Ql 1 rfl rfl<|xqr 1 rfl ?_;intro a J;refine wpQuiet_nil ?_; intro w13 E; replace E := Bx.mk E;revert a;refine xet<|xcd 60 rfl (fun cc7 dcc7=>?_) fun cc7 dcc7=>?_
 refine xct rfl<|xsr ?_;refine yem 31 5 E ?_;clear E;intro w14 b9 E;refine xr 2 rfl<|xne<|xre<|xbr<|xtr<|xtr<|xbr<|xtr<|xb2 results156 rfl rfl ?_;have hks := JU (n := level) hp (show p.al ≤ st.ak by omega);have hany : l.any (fun k => decide (p.al < k.al)) = true := List.any_eq_true.2 ⟨l.getD k PtrD.zero, (by rw [getD_eq_getElem?_getD, List.getElem?_eq_getElem (show k < l.length by omega)]; exact List.getElem_mem _), cc7⟩;exact .inr ⟨hks.trans (Zfx cc1 hfan hany), _, _, _, rfl, E.o.bel⟩;refine xcf rfl<|xsk<|xeb<|xet<|xrl<|xr 1 rfl<|xy rfl (vad rfl)<|xr 1 rfl<|xne ?_;have hno1 : ∀ i, i < k + 1 → decide (p.al < (l.getD i PtrD.zero).al) = false := fun i hi => (by omega : i < k ∨ i = k).elim (hno i) fun e => by subst e; exact cc7
 intro a J;exact ⟨k + 1, ⟨⟨by omega, hno1⟩, J.less _ ⟨rfl, rfl, rfl, rfl, rfl, rfl, rfl, rfl, rfl, rfl, trivial⟩, E.o⟩, (by omega)⟩;refine xcf rfl<|xex<|xtx<|xtx<|xbh<|xet<|xsr<|xr 4 rfl<|xne<|xre<|xb2 results156 rfl rfl ?_;have hks := JU (n := level) hp (show p.al ≤ st.ak by omega);have hany : l.any (fun k => decide (p.al < k.al)) = false := List.any_eq_false.2 fun x hx => by
   obtain ⟨i, hi, e⟩ := List.mem_iff_getElem.1 hx;have h1 := hno i (by omega); rw [getD_eq_getElem?_getD, List.getElem?_eq_getElem hi, getD_some, e] at h1; rw [h1]; simp
 exact .inl ⟨l, hks.trans (Zd2 cc1 (by simpa using cc5) (by simpa using cc3) hfan hany), _, _, rfl, (E.o.erS [2,1])⟩;refine ⟨_, rfl, ?_⟩; replace E := Bx.mk (E.o.later hb);clear hb;refine xr 5 rfl<|xne<|xsq<|xsr<|xr 1 rfl<|xne<|xbl ?_;intro a J;refine Zt (ι := Nat) (fun k a w => (k = 0) ∧ Fr 64 a [(0, sV a0 c0 a1 c1 a2 c2 a4 c4 a6 c6 st), (1, pV p), (2, .int .i64 level), (3, .pointer (some ⟨b1, 0, none⟩)), (4, .pointer (some ⟨b2, 0, none⟩)), (6, .slice none 0 0), (7, .bool false), (10, .slice ae 0 0), (11, .bool false), (12, .int .i64 (k : Int))] ∧ St w0 ([boxA b2 5 31 (pV p), boxA b1 8 29 (sV a0 c0 a1 c1 a2 c2 a4 c4 a6 c6 st)]) w) (fun k => 0) 0 ⟨rfl, J.ls _, E.o⟩ ?_;clear J E; clear a;rintro k a w15 ⟨hk0, J, E⟩;replace E := Bx.mk E;revert a;refine xsq<|xsr<|xr 2 rfl<|xy rfl (vn 31 5 rfl)<|xr 1 rfl<|xne<|xcd 50 rfl (fun _ dcc8=>?_) fun _ dcc8=>?_
 exact absurd dcc8 (by omega);refine xcf rfl<|xex<|xtx<|xtx<|xbh<|xet<|xsr<|xr 4 rfl<|xne<|xre<|xb2 results156 rfl rfl ?_;have hks := JU (n := level) hp (show p.al ≤ st.ak by omega);exact .inr ⟨hks.trans (Zd1 cc1 hno), _, _, _, rfl, E.o.bel⟩
def Ua (refs : List Int) (t : Int) (p : PtrD) : Bool := Yc p t && (refs.getD p.aA.toNat 0 != 0)
theorem ZfB (ao : Option Addr) (len cap : Nat) (ps0 ps : List PtrD) (t : Int) (refs : List Int) (a1 : Option Addr) (c1 : Nat) (cs : Array Value) (s g m : Nat) (W w : World)
  (hlen : len ≤ 1048576) (h0 : ps0.length ≤ 1048576) (h64 : refs.length = 64) (hsg : s < g) (hgm : g < m) (hWg : W.heap.size ≤ g)
  (hb : Below W.heap.size W w) (hcs : cs[1]? = some (.slice a1 refs.length c1)) (r1 : Rd Zv 1 W a1 refs.length refs) (r4 : Rd PtrD.cells 5 W ao len ps)
  (hA : w.heap[s]? = some (.cells cs 29 (0, 0))) (hM : w.heap[m]? = some (.cells #[.slice (some ⟨g, 0, none⟩) 64 64] 24 (0, 0)))
  (ho : w.ownsRow g 3 1 (.slice (some ⟨g, 0, none⟩) 64 64) 64 (YR ps0)) :
  Calls prog 49 #[.slice ao len cap, .int .i64 t, .pointer (some ⟨s, 0, none⟩), .pointer (some ⟨m, 0, none⟩)] w fun e w' => e = .returned (.bool (ps.all (Ua refs t))) ∧ Below W.heap.size W w' ∧
   (ps.all (Ua refs t) = true → w'.heap[s]? = some (.cells cs 29 (0, 0)) ∧ w'.heap[m]? = some (.cells #[.slice (some ⟨g, 0, none⟩) 64 64] 24 (0, 0)) ∧ w'.ownsRow g 3 1 (.slice (some ⟨g, 0, none⟩) 64 64) 64 (YR (ps0 ++ ps))) := by
 have HA0 := Lib.hid hA;have HM0 := Lib.hid hM;have HO0 := Lib.hid ho;have hps := r4.len;have H64 := Lib.hid h64;clear hA hM ho h64
 go_enter func49, ntmps49
 go_wp2
 go_loopw [11] (fun i wr => ∃ k : Nat, k ≤ len ∧ i = .int .i64 k ∧ (ps.take k).all (Ua refs t) = true ∧ Below W.heap.size W wr ∧ wr.heap[s]? = some (.cells cs 29 (0, 0)) ∧ wr.heap[m]? = some (.cells #[.slice (some ⟨g, 0, none⟩) 64 64] 24 (0, 0)) ∧ wr.ownsRow g 3 1 (.slice (some ⟨g, 0, none⟩) 64 64) 64 (YR (ps0 ++ ps.take k))) (fun i _ => len - (intOf i).toNat)
 case atStart => exact ⟨0, Nat.zero_le _, rfl, rfl, hb, HA0.out, HM0.out, by simpa using HO0.out⟩
 case round =>
  obtain ⟨k, hk, rfl, hall, hb1, hA, hM, ho⟩ := hrel;clear hb HA0 HM0 HO0
  by_cases hlt : k < len
  ·obtain ⟨b, off, p, hp, rfl, hbl, hrg⟩ := r4.at_ k (by omega)
   obtain ⟨d0, d1, d2, d3, d4⟩ := PtrD.at_ (ZJ hrg hb1 hbl);obtain ⟨hkp, hpe⟩ := List.getElem?_eq_some_iff.1 hp;have hsn : Hid (ps.take (k + 1) = ps.take k ++ [p]) := by show _ = _; rw [List.take_succ_eq_append_getElem hkp, hpe]
   have hfail : Hid (Ua refs t p = false → ps.all (Ua refs t) = false) := fun h => by rw [List.all_eq_false]; exact ⟨p, by rw [← hpe]; exact List.getElem_mem _, by rw [h]; decide⟩
   have hnext : Hid (Ua refs t p = true → (ps.take (k + 1)).all (Ua refs t) = true) := fun h => by rw [hsn.out, List.all_append, hall]; simp [h]
   have hgood : Hid (Ua refs t p = ((p.ok && (!p.hole && decide (p.al ≤ t))) && (refs.getD p.aA.toNat 0 != 0))) := rfl;have hcj : (ps0 ++ ps.take k).length ≤ 2097152 := by rw [length_append, length_take]; omega
   have HA := Lib.hid hA;have HM := Lib.hid hM;have HO := Lib.hid ho;have hsw := Jf hA;have hmw := Jf hM;clear hp hrg hall hA hM ho hpe hkp
   go_wp2_with fail
   have hba := hb1.alloc hb1.size (.cells #[.int .i64 p.aA, .int .i64 p.al, .int .i64 p.av, .int .i64 p.aC, .int .i64 p.ar] 31);refine (Zaw p _).mono ?_;rintro e w2 ⟨rfl, b2⟩;have hb2 := hba.trans (b2.mono hba.size);have q2 := ZG (YO wr (.cells #[.int .i64 p.aA, .int .i64 p.al, .int .i64 p.av, .int .i64 p.aC, .int .i64 p.ar] 31) _ rfl) b2 (Nat.le_refl _);have f0 : w2.cell? ⟨wr.heap.size, 0, none⟩ = some (.int .i64 p.aA) := Zh q2 0;have f1 : w2.cell? ⟨wr.heap.size, 1, none⟩ = some (.int .i64 p.al) := Zh q2 1;have f2 : w2.cell? ⟨wr.heap.size, 2, none⟩ = some (.int .i64 p.av) := Zh q2 2;have f3 : w2.cell? ⟨wr.heap.size, 3, none⟩ = some (.int .i64 p.aC) := Zh q2 3;have f4 : w2.cell? ⟨wr.heap.size, 4, none⟩ = some (.int .i64 p.ar) := Zh q2 4
   cases h1 : p.ok
   ·have HR : Hid (Ua refs t p = false) := by show _ = _; rw [hgood.out, h1]; rfl
    go_wp2
    go_ret
    exact ⟨Zs (hfail.out HR.out).symm, hb2, fun h => absurd ((hfail.out HR.out).symm.trans h) (by decide)⟩
   ·go_wp2_with fail
    refine (Zbg p _).mono ?_;rintro e w3 ⟨rfl, b3⟩;have hb3 := hb2.trans (b3.mono hb2.size);have q3 := ZG q2 b3 (Nat.le_refl _);clear f0 f1 f2 f3 f4
    cases h2 : p.hole
    rotate_left
    ·have HR : Hid (Ua refs t p = false) := by show _ = _; rw [hgood.out, h1, h2]; rfl
     go_wp2
     go_ret
     exact ⟨Zs (hfail.out HR.out).symm, hb3, fun h => absurd ((hfail.out HR.out).symm.trans h) (by decide)⟩
    ·by_cases h3 : p.al ≤ t
     rotate_left
     ·have HR : Hid (Ua refs t p = false) := by show _ = _; rw [hgood.out, h1, h2]; simp [h3]
      have f1 : w3.cell? ⟨wr.heap.size, 1, none⟩ = some (.int .i64 p.al) := Zh q3 1;have h3' : decide (t < p.al) = true := by simp; omega
      go_wp2
      go_ret
      exact ⟨Zs (hfail.out HR.out).symm, hb3, fun h => absurd ((hfail.out HR.out).symm.trans h) (by decide)⟩
     ·have hat := UD (p := p) (m := t) (by simp [Yc, h1, h2, h3])
      obtain ⟨a, ha⟩ : ∃ a : Nat, p.aA = (a : Int) := ⟨p.aA.toNat, by omega⟩;have ha1 : a < 64 := by omega
      have Ha := Lib.hid ha;have Hat := Lib.hid hat;clear ha hat;have f0 : w3.cell? ⟨wr.heap.size, 0, none⟩ = some (.int .i64 (a : Int)) := by rw [← Ha.out]; exact Zh q3 0
      have f1 : w3.cell? ⟨wr.heap.size, 1, none⟩ = some (.int .i64 p.al) := Zh q3 1;have hA3 := ZG (ZG (UB HA.out (.cells #[.int .i64 p.aA, .int .i64 p.al, .int .i64 p.av, .int .i64 p.aC, .int .i64 p.ar] 31)) b2 (Nat.le_refl _)) b3 (Nat.le_refl _);have hM3 := ZG (ZG (UB HM.out (.cells #[.int .i64 p.aA, .int .i64 p.al, .int .i64 p.av, .int .i64 p.aC, .int .i64 p.ar] 31)) b2 (Nat.le_refl _)) b3 (Nat.le_refl _);have ho3 := QQ (QQ (HO.out.alloc (.cells #[.int .i64 p.aA, .int .i64 p.al, .int .i64 p.av, .int .i64 p.aC, .int .i64 p.ar] 31)) b2 (Nat.le_refl _)) b3 (Nat.le_refl _);have hca : w3.cell? ⟨g, a, none⟩ = some (.int .i64 (cnt (ps0 ++ ps.take k) a : Nat)) := by rw [ho3.cellAt a (by omega)]; exact Xp _ _ ha1
      have hfa := ho3.frozenAt a;have hcl := Zgg (ps0 ++ ps.take k) a;obtain ⟨b1, off1, r, hx1, rfl, hbl1, hrg1⟩ := r1.at_ a (by rw [H64.out]; exact ha1);have g1 := (ZJ hrg1 hb3 hbl1) 0 _ rfl;simp only [Nat.mul_one, Nat.add_zero] at g1;have e1 := Lib.hid (XZ (d := (0 : Int)) hx1);have hl1 : a < refs.length := by rw [H64.out]; exact ha1
      have p1 : w3.cell? ⟨s, 1, none⟩ = some (.slice (some ⟨b1, off1, none⟩) refs.length c1) := by rw [Zh hA3 1]; exact hcs
      have pm : w3.cell? ⟨m, 0, none⟩ = some (.slice (some ⟨g, 0, none⟩) 64 64) := Zh hM3 0;have HA3 := Lib.hid hA3;have HM3 := Lib.hid hM3;have HO3 := Lib.hid ho3;clear hx1 hrg1 hA3 hM3 ho3 q2 q3 b2 b3 HA HM HO hb1 hb2 hba;have h3' : decide (t < p.al) = false := by simp; omega
      cases gr : (r == 0)
      rotate_left
      ·have HR : Hid (Ua refs t p = false) := by
        show _ = _;rw [hgood.out, Ha.out, Int.toNat_natCast, e1.out];simp only [bne, gr]; simp
       go_wp2
       go_ret
       exact ⟨Zs (hfail.out HR.out).symm, hb3, fun h => absurd ((hfail.out HR.out).symm.trans h) (by decide)⟩
      ·have HR : Hid (Ua refs t p = true) := by
        show _ = _;rw [hgood.out, Ha.out, Int.toNat_natCast, e1.out, h1, h2];simp only [bne, gr]; simp [h3]
       generalize hcd : cnt (ps0 ++ ps.take k) a = cn at hca hcl;have HCD := Lib.hid hcd;clear hcd
       go_wp2
       go_roundw
       case rel =>
        obtain ⟨ho4, _⟩ := HO3.out.stored a (.int .i64 ((cn : Int) + 1));refine ⟨k + 1, by omega, by go_num, hnext.out HR.out, hb3.setCell (p := ⟨g, a, none⟩) hWg _, ?_, ?_, ?_⟩
        ·exact XD HA3.out (p := ⟨g, a, none⟩) (Nat.ne_of_lt hsg) _
        ·exact XD HM3.out (p := ⟨g, a, none⟩) (Nat.ne_of_gt hgm) _
        ·rw [hsn.out, ← List.append_assoc, ← Ux _ p a Ha.out ha1, HCD.out]; exact ho4
       case measure => simp [intOf]; omega
  ·have hk' : k = len := by omega
   subst hk';have htk : Hid (ps.take k = ps) := List.take_of_length_le (by omega);have HR := Lib.hid hall;have HA := Lib.hid hA;have HM := Lib.hid hM;have HO := Lib.hid ho;clear hall hA hM ho
   go_wp2
   go_ret
   rw [htk.out] at HR HO;exact ⟨Zs HR.out.symm, hb1, fun _ => ⟨HA.out, HM.out, HO.out⟩⟩
structure X9 (W : World) where
  val : World
  below : Below W.heap.size W val
instance (W : World) : Inhabited (X9 W) := ⟨⟨W, Below.refl _ _⟩⟩
theorem Yq {P : Program} {id : Nat} {Q : Exit → Act → World → Prop} {a : Act} {w : World} {l : List Oper} (hm : P.follows .mixedOrders = true) (hB : Region.lexB .any l.toArray = true)
  (h : wpQuiet P l.toArray (fun w' => ∃ n : X9 w, w' = n.val) (fun a' => ∀ w', (∃ n : X9 w, w' = n.val) → Q .normal a' w') l a) : (Code.region id l.toArray true).wp P Q a w :=
 wp_region_quiet (C := fun w' => ∃ n : X9 w, w' = n.val) hm hB ⟨⟨w.drew, (Below.refl _ _).drew⟩, rfl⟩ (by simpa using h)
theorem ZlV {P : Program} {f : FuncId} {args : Array Value} {W : World} {n : X9 W} {v : Value}
  (h : Calls P f args n.val fun e w' => e = .returned v ∧ Below n.val.heap.size n.val w') : Calls P f args n.val fun e w'' => e = .returned v ∧ ∃ m : X9 W, w'' = m.val :=
 h.mono fun _ w'' ⟨he, hb⟩ => ⟨he, ⟨w'', n.below.trans (hb.mono n.below.size)⟩, rfl⟩
theorem Uz {P : Program} {f : FuncId} {args : Array Value} {W : World} {n : X9 W} {v : Value}
  (h : Calls P f args n.val fun e w' => e = .returned v ∧ n.val = w') : Calls P f args n.val fun e w'' => e = .returned v ∧ ∃ m : X9 W, w'' = m.val :=
 h.mono fun _ _ ⟨he, hm⟩ => ⟨he, n, hm.symm⟩
theorem JZ {W : World} {a : Addr} {v : Value} (h : W.cell? a = some v) (n : X9 W) : n.val.cell? a = some v :=
 (n.below.cell (World.block_lt_of_cell? W a h)).trans h
def Zdp (xs : List Int) (k : Nat) : Int := (xs.take k).foldl max (xs.getD 0 0)
theorem Zcs (xs : List Int) (k : Nat) {x : Int} (h : xs[k]? = some x) : Zdp xs (k + 1) = max (Zdp xs k) x := by
 obtain ⟨hk, rfl⟩ := List.getElem?_eq_some_iff.1 h;unfold Zdp;rw [List.take_succ_eq_append_getElem hk, List.foldl_append]
 rfl
theorem Zhy (xs : List Int) {x : Int} (h : xs[0]? = some x) : Zdp xs 1 = x := by
 rw [show (1 : Nat) = 0 + 1 from rfl, Zcs xs 0 h];simp [Zdp, List.getD, h]
theorem Zgy (xs : List Int) (t : Int) : ∀ k, k ≤ xs.length → 0 < k → (Zdp xs k ≤ t ↔ ∀ i, i < k → xs.getD i 0 ≤ t)
 | 0, _, h => absurd h (Nat.lt_irrefl _)
 | 1, h1, _ => by
  have h0 : xs[0]? = some xs[0] := List.getElem?_eq_getElem (by omega);rw [Zhy xs h0]
  constructor
  ·intro h i hi
   obtain rfl : i = 0 := by omega
   simpa [List.getD, h0] using h
  ·intro h
   have := h 0 (by omega)
   simpa [List.getD, h0] using this
 | k + 2, h1, _ => by
  have h0 : xs[k + 1]? = some xs[k + 1] := List.getElem?_eq_getElem (by omega);rw [Zcs xs (k + 1) h0];have ih := Zgy xs t (k + 1) (by omega) (by omega)
  constructor
  ·intro h i hi
   by_cases hik : i = k + 1
   ·subst hik
    have : xs[k + 1] ≤ t := by omega
    simpa [List.getD, h0] using this
   ·exact ih.1 (by omega) i (by omega)
  ·intro h
   have h2 := ih.2 (fun i hi => h i (by omega));have h3 := h (k + 1) (by omega);have h4 : xs[k + 1] ≤ t := by simpa [List.getD, h0] using h3
   omega
theorem ZlW (ao : Option Addr) (len cap : Nat) (xs : List Int) (w : World) (hlen : len ≤ 1048576) (hpos : 0 < len) (hr : Rd Zv 1 w ao len xs) :
  Calls prog 48 #[.slice ao len cap] w fun e w' => e = .returned (.int .i64 (Zdp xs len)) ∧ w = w' := by
 obtain ⟨b, off, x, hx0, rfl, hbl, hrg⟩ := hr.at_ 0 (by rw [hr.len]; exact hpos);have c0 := hrg 0 _ rfl;simp only [Nat.zero_mul, Nat.add_zero] at c0;have H1 := Lib.hid (Zhy xs hx0);clear hrg hx0
 go_enter func48, ntmps48
 go_wp2
 go_loop [3, 4] (fun m i => ∃ k : Nat, 1 ≤ k ∧ k ≤ len ∧ i = .int .i64 k ∧ m = .int .i64 (Zdp xs k)) (fun _ i => len - (intOf i).toNat)
 case atStart => exact ⟨1, by omega, by omega, rfl, by rw [H1.out]⟩
 case round =>
  obtain ⟨k, hk1, hk, rfl, rfl⟩ := hrel
  by_cases hlt : k < len
  ·obtain ⟨b2, off2, y, hy0, hao, hbl2, hrg2⟩ := hr.at_ k (by rw [hr.len]; exact hlt)
   simp only [Option.some.injEq, Addr.mk.injEq, and_true] at hao;obtain ⟨rfl, rfl⟩ := hao;have c1 := hrg2 0 _ rfl;simp only [Nat.mul_one, Nat.add_zero] at c1;have H2 := Lib.hid (Zcs xs k hy0);clear hy0 hrg2
   go_wp2
   go_round
   case rel => exact ⟨k + 1, by omega, by omega, by go_num, by first | (rw [H2.out, Zop]) | (rw [H2.out])⟩
   case measure => simp [intOf]; omega
  ·have hk' : k = len := by omega
   subst hk'
   go_wp2
   go_ret
   exact ⟨rfl, rfl⟩
theorem ZlX {refs : List Int} {ps : List PtrD} (h : XH refs ps = true) {p : PtrD} (hp : p ∈ ps) {m : Int} (hin : Yc p m = true) : refs.getD p.aA.toNat 0 ≠ 0 := by
 obtain ⟨h1, h2, _⟩ := UD hin;obtain ⟨a, ha⟩ : ∃ a : Nat, p.aA = (a : Int) := ⟨p.aA.toNat, by omega⟩;simp only [XH, List.all_eq_true] at h;have h3 := h a (List.mem_range.2 (by omega));simp only [decide_eq_true_eq] at h3;have h4 : 0 < cnt ps a := List.length_pos_of_mem (List.mem_filter.2 ⟨hp, by simp [ha]⟩);rw [ha, Int.toNat_natCast]
 omega
theorem Zhz {refs : List Int} {ps qs : List PtrD} (h : XH refs qs = true) (hs : ∀ p ∈ ps, p ∈ qs) (m : Int) : ps.all (fun p => Yc p m) = ps.all (Ua refs m) := by
 rw [Bool.eq_iff_iff, List.all_eq_true, List.all_eq_true];refine ⟨fun k p hp => ?_, fun k p hp => ?_⟩
 ·have h1 := k p hp
  have h2 := ZlX h (hs p hp) h1;rw [Ua, h1, Bool.true_and, bne_iff_ne];exact h2
 ·have h1 := k p hp
  simp only [Ua, Bool.and_eq_true] at h1;exact h1.1
theorem Znw (st : Za) : (st.ag.all (fun p => Yc p (st.ak - 1)) && (st.aj.all (fun p => Yc p st.aw) && XH st.aa.ac (st.ag ++ st.aj))) =
  (st.ag.all (Ua st.aa.ac (st.ak - 1)) && (st.aj.all (Ua st.aa.ac st.aw) && XH st.aa.ac (st.ag ++ st.aj))) := by
 cases h : XH st.aa.ac (st.ag ++ st.aj)
 ·simp
 ·rw [Zhz h (fun p hp => mem_append_left _ hp), Zhz h (fun p hp => mem_append_right _ hp)]
def Zec (refs : List Int) (ps : List PtrD) (k : Nat) : Bool := (List.range k).all fun i => decide ((cnt ps i : Int) ≤ refs.getD i 0)
theorem ZhA (refs : List Int) (ps : List PtrD) (k : Nat) : Zec refs ps (k + 1) = (Zec refs ps k && decide ((cnt ps k : Int) ≤ refs.getD k 0)) := by simp [Zec, List.range_succ]
theorem ZlY {refs : List Int} {ps : List PtrD} {k : Nat} (hk : k < 64) (h : refs.getD k 0 < (cnt ps k : Int)) : XH refs ps = false := by
 unfold XH;rw [List.all_eq_false];exact ⟨k, List.mem_range.2 hk, by simp only [decide_eq_true_eq]; omega⟩
theorem ZlZ {st : Za} (hl : st.aa.ah.length = 64) (h : ¬ Zdp st.aa.ah st.aa.ah.length ≤ st.ak) : Xq st 64 = false := by
 rw [Zgy _ _ _ (Nat.le_refl _) (by omega)] at h
 cases hr : Xq st 64 with
 | false => rfl
 | true =>
  refine absurd (fun i hi => ?_) h;have := UC hr (k := i) (by omega);simp only [YZ, Bool.and_eq_true, decide_eq_true_eq] at this;exact this.2.2
theorem Zki {st : Za} (hl : st.aa.ah.length = 64) (h : Zdp st.aa.ah st.aa.ah.length ≤ st.ak) : ∀ i, i < 64 → st.aa.ah.getD i 0 ≤ st.ak := by
 rw [Zgy _ _ _ (Nat.le_refl _) (by omega)] at h;exact fun i hi => h i (by omega)
theorem Jj (v : Value) (st : Za) (w : World) (hr : Za.Reads w v st) (hf : st.Fit) :
  Calls prog 18 #[v] w fun e w' => e = .returned (.bool st.ok) ∧ Below w.heap.size w w' := by
 obtain ⟨a0, c0, a1, c1, a2, c2, a4, c4, a6, c6, rfl, r0, r1, r2, r4, r6⟩ := hr;have hl0 := hf.f0;have hb0 : Below w.heap.size w (w.alloc (.cells #[.slice a0 st.af.length c0, .slice a1 st.aa.ac.length c1, .slice a2 st.aa.ah.length c2, .int .i64 st.ak, .slice a4 st.ag.length c4, .int .i64 st.aw, .slice a6 st.aj.length c6, .bool st.ax] 29)) := (Below.refl _ _).alloc (Nat.le_refl _) _;have hA0 := YO w (.cells #[.slice a0 st.af.length c0, .slice a1 st.aa.ac.length c1, .slice a2 st.aa.ah.length c2, .int .i64 st.ak, .slice a4 st.ag.length c4, .int .i64 st.aw, .slice a6 st.aj.length c6, .bool st.ax] 29) _ rfl;have HSg : Bx (∀ n : X9 (w.alloc (.cells #[.slice a0 st.af.length c0, .slice a1 st.aa.ac.length c1, .slice a2 st.aa.ah.length c2, .int .i64 st.ak, .slice a4 st.ag.length c4, .int .i64 st.aw, .slice a6 st.aj.length c6, .bool st.ax] 29)), Calls prog 46 #[.agg #[.slice a1 st.aa.ac.length c1, .slice a2 st.aa.ah.length c2]] n.val fun e w'' => e = .returned (.bool st.aa.ok) ∧ ∃ m : X9 (w.alloc (.cells #[.slice a0 st.af.length c0, .slice a1 st.aa.ac.length c1, .slice a2 st.aa.ah.length c2, .int .i64 st.ak, .slice a4 st.ag.length c4, .int .i64 st.aw, .slice a6 st.aj.length c6, .bool st.ax] 29)), w'' = m.val) := ⟨fun n =>
  ZlV (Zdl _ st.aa _ ⟨_, _, _, _, rfl, (r1.below hb0).below n.below, (r2.below hb0).below n.below⟩ ⟨hf.f1, hf.f2⟩)⟩
 have HW1g : Bx (∀ n : X9 (w.alloc (.cells #[.slice a0 st.af.length c0, .slice a1 st.aa.ac.length c1, .slice a2 st.aa.ah.length c2, .int .i64 st.ak, .slice a4 st.ag.length c4, .int .i64 st.aw, .slice a6 st.aj.length c6, .bool st.ax] 29)), Calls prog 47 #[.int .i64 st.ak, .int .i64 1, .int .i64 900] n.val fun e w'' => e = .returned (.bool (inB st.ak 1 900)) ∧ ∃ m : X9 (w.alloc (.cells #[.slice a0 st.af.length c0, .slice a1 st.aa.ac.length c1, .slice a2 st.aa.ah.length c2, .int .i64 st.ak, .slice a4 st.ag.length c4, .int .i64 st.aw, .slice a6 st.aj.length c6, .bool st.ax] 29)), w'' = m.val) := ⟨fun n => Uz (YI _ _ _ _)⟩;have HW2g : Bx (∀ n : X9 (w.alloc (.cells #[.slice a0 st.af.length c0, .slice a1 st.aa.ac.length c1, .slice a2 st.aa.ah.length c2, .int .i64 st.ak, .slice a4 st.ag.length c4, .int .i64 st.aw, .slice a6 st.aj.length c6, .bool st.ax] 29)), Calls prog 47 #[.int .i64 st.aw, .int .i64 0, .int .i64 (st.ak - 1)] n.val fun e w'' => e = .returned (.bool (inB st.aw 0 (st.ak - 1))) ∧ ∃ m : X9 (w.alloc (.cells #[.slice a0 st.af.length c0, .slice a1 st.aa.ac.length c1, .slice a2 st.aa.ah.length c2, .int .i64 st.ak, .slice a4 st.ag.length c4, .int .i64 st.aw, .slice a6 st.aj.length c6, .bool st.ax] 29)), w'' = m.val) := ⟨fun n => Uz (YI _ _ _ _)⟩;have HMg : Bx (0 < st.aa.ah.length → ∀ n : X9 (w.alloc (.cells #[.slice a0 st.af.length c0, .slice a1 st.aa.ac.length c1, .slice a2 st.aa.ah.length c2, .int .i64 st.ak, .slice a4 st.ag.length c4, .int .i64 st.aw, .slice a6 st.aj.length c6, .bool st.ax] 29)), Calls prog 48 #[.slice a2 st.aa.ah.length c2] n.val fun e w'' => e = .returned (.int .i64 (Zdp st.aa.ah st.aa.ah.length)) ∧ ∃ m : X9 (w.alloc (.cells #[.slice a0 st.af.length c0, .slice a1 st.aa.ac.length c1, .slice a2 st.aa.ah.length c2, .int .i64 st.ak, .slice a4 st.ag.length c4, .int .i64 st.aw, .slice a6 st.aj.length c6, .bool st.ax] 29)), w'' = m.val) := ⟨fun hp n => Uz (ZlW a2 _ c2 st.aa.ah n.val hf.f2 hp ((r2.below hb0).below n.below))⟩;have H0 := Bx.mk hb0;have J := Bx.mk hf;have q0 : ∀ n : X9 (w.alloc (.cells #[.slice a0 st.af.length c0, .slice a1 st.aa.ac.length c1, .slice a2 st.aa.ah.length c2, .int .i64 st.ak, .slice a4 st.ag.length c4, .int .i64 st.aw, .slice a6 st.aj.length c6, .bool st.ax] 29)), n.val.cell? ⟨w.heap.size, 0, none⟩ = some (.slice a0 st.af.length c0) := JZ (Zh hA0 0);have q1 : ∀ n : X9 (w.alloc (.cells #[.slice a0 st.af.length c0, .slice a1 st.aa.ac.length c1, .slice a2 st.aa.ah.length c2, .int .i64 st.ak, .slice a4 st.ag.length c4, .int .i64 st.aw, .slice a6 st.aj.length c6, .bool st.ax] 29)), n.val.cell? ⟨w.heap.size, 1, none⟩ = some (.slice a1 st.aa.ac.length c1) := JZ (Zh hA0 1);have q2 : ∀ n : X9 (w.alloc (.cells #[.slice a0 st.af.length c0, .slice a1 st.aa.ac.length c1, .slice a2 st.aa.ah.length c2, .int .i64 st.ak, .slice a4 st.ag.length c4, .int .i64 st.aw, .slice a6 st.aj.length c6, .bool st.ax] 29)), n.val.cell? ⟨w.heap.size, 2, none⟩ = some (.slice a2 st.aa.ah.length c2) := JZ (Zh hA0 2);have q3 : ∀ n : X9 (w.alloc (.cells #[.slice a0 st.af.length c0, .slice a1 st.aa.ac.length c1, .slice a2 st.aa.ah.length c2, .int .i64 st.ak, .slice a4 st.ag.length c4, .int .i64 st.aw, .slice a6 st.aj.length c6, .bool st.ax] 29)), n.val.cell? ⟨w.heap.size, 3, none⟩ = some (.int .i64 st.ak) := JZ (Zh hA0 3);have q5 : ∀ n : X9 (w.alloc (.cells #[.slice a0 st.af.length c0, .slice a1 st.aa.ac.length c1, .slice a2 st.aa.ah.length c2, .int .i64 st.ak, .slice a4 st.ag.length c4, .int .i64 st.aw, .slice a6 st.aj.length c6, .bool st.ax] 29)), n.val.cell? ⟨w.heap.size, 5, none⟩ = some (.int .i64 st.aw) := JZ (Zh hA0 5);have HA0 := Bx.mk hA0;clear hA0 hb0
 by_cases h64 : st.af.length = 64
 rotate_left
 ·have hl : ((st.af.length : Int) != 64) = true := by simp [bne]; omega
  have HB : Bx (st.ok = false) := ⟨by show _ = _; unfold Za.ok; simp [h64]⟩;clear hf
  go_enter func18, ntmps18
  go_wp2_with fail
  generalize w.alloc (.cells #[.slice a0 st.af.length c0, .slice a1 st.aa.ac.length c1, .slice a2 st.aa.ah.length c2, .int .i64 st.ak, .slice a4 st.ag.length c4, .int .i64 st.aw, .slice a6 st.aj.length c6, .bool st.ax] 29) = W0 at *;refine Yq (by kernel_rfl) (by kernel_rfl) ?_
  repeat (go_big_quiet_step (first | (go_at_call 46; with_reducible exact E.o _) | (go_at_call 47; first | with_reducible exact HW1.out _ | with_reducible exact HW2.out _) | (go_at_call 48; with_reducible exact HM.o _)))
  refine wpQuiet_nil ?_;intro _ hw';obtain ⟨nq, hw''⟩ := hw';subst hw''
  go_wp2
  go_ret
  exact ⟨Zs HB.out.symm, H0.out.trans (nq.below.mono H0.out.size)⟩
 ·have hl : ((st.af.length : Int) != 64) = false := by simp [h64]
  have H64 := Bx.mk h64;clear h64
  cases hsp : st.aa.ok
  ·have E := HSg.out
   rw [hsp] at E;have E := Bx.mk E;have HB : Bx (st.ok = false) := ⟨by show _ = _; unfold Za.ok; simp [hsp]⟩;clear hf hsp
   go_enter func18, ntmps18
   go_wp2_with fail
   generalize w.alloc (.cells #[.slice a0 st.af.length c0, .slice a1 st.aa.ac.length c1, .slice a2 st.aa.ah.length c2, .int .i64 st.ak, .slice a4 st.ag.length c4, .int .i64 st.aw, .slice a6 st.aj.length c6, .bool st.ax] 29) = W0 at *;refine Yq (by kernel_rfl) (by kernel_rfl) ?_
   repeat (go_big_quiet_step (first | (go_at_call 46; with_reducible exact E.o _) | (go_at_call 47; first | with_reducible exact HW1.out _ | with_reducible exact HW2.out _) | (go_at_call 48; with_reducible exact HM.o _)))
   refine wpQuiet_nil ?_;intro _ hw';obtain ⟨nq, hw''⟩ := hw';subst hw''
   go_wp2
   go_ret
   exact ⟨Zs HB.out.symm, H0.out.trans (nq.below.mono H0.out.size)⟩
  ·have E := HSg.out
   rw [hsp] at E;have E := Bx.mk E
   cases htx : inB st.ak 1 900
   ·have HW1 := HW1g.out
    rw [htx] at HW1;have HW1 := Bx.mk HW1;have HB : Bx (st.ok = false) := ⟨by show _ = _; unfold Za.ok; simp [htx]⟩;clear hf hsp htx
    go_enter func18, ntmps18
    go_wp2_with fail
    generalize w.alloc (.cells #[.slice a0 st.af.length c0, .slice a1 st.aa.ac.length c1, .slice a2 st.aa.ah.length c2, .int .i64 st.ak, .slice a4 st.ag.length c4, .int .i64 st.aw, .slice a6 st.aj.length c6, .bool st.ax] 29) = W0 at *;refine Yq (by kernel_rfl) (by kernel_rfl) ?_
    repeat (go_big_quiet_step (first | (go_at_call 46; with_reducible exact E.o _) | (go_at_call 47; first | with_reducible exact HW1.out _ | with_reducible exact HW2.out _) | (go_at_call 48; with_reducible exact HM.o _)))
    refine wpQuiet_nil ?_;intro _ hw';obtain ⟨nq, hw''⟩ := hw';subst hw''
    go_wp2
    go_ret
    exact ⟨Zs HB.out.symm, H0.out.trans (nq.below.mono H0.out.size)⟩
   ·have HW1 := HW1g.out
    rw [htx] at HW1;have HW1 := Bx.mk HW1;have hbt := Zw htx
    cases hkp : inB st.aw 0 (st.ak - 1)
    ·have HW2 := HW2g.out
     rw [hkp] at HW2;have HW2 := Bx.mk HW2;have HB : Bx (st.ok = false) := ⟨by show _ = _; unfold Za.ok; simp [hkp]⟩;clear hf hsp htx hkp
     go_enter func18, ntmps18
     go_wp2_with fail
     generalize w.alloc (.cells #[.slice a0 st.af.length c0, .slice a1 st.aa.ac.length c1, .slice a2 st.aa.ah.length c2, .int .i64 st.ak, .slice a4 st.ag.length c4, .int .i64 st.aw, .slice a6 st.aj.length c6, .bool st.ax] 29) = W0 at *;refine Yq (by kernel_rfl) (by kernel_rfl) ?_
     repeat (go_big_quiet_step (first | (go_at_call 46; with_reducible exact E.o _) | (go_at_call 47; first | with_reducible exact HW1.out _ | with_reducible exact HW2.out _) | (go_at_call 48; with_reducible exact HM.o _)))
     refine wpQuiet_nil ?_;intro _ hw';obtain ⟨nq, hw''⟩ := hw';subst hw''
     go_wp2
     go_ret
     exact ⟨Zs HB.out.symm, H0.out.trans (nq.below.mono H0.out.size)⟩
    ·have HW2 := HW2g.out
     rw [hkp] at HW2;have HW2 := Bx.mk HW2;have hbk := Zw hkp;have HSP := Bx.mk (Zp.ok_spec hsp);have HM := HMg.out (by rw [HSP.out.last]; decide);have HLB := Bx.mk (fun h => ZlZ (st := st) HSP.out.last h);have HLG := Bx.mk (fun h => Zki (st := st) HSP.out.last h);have HST : Bx (st.ok = (Xq st 64 && (st.ag.all (Ua st.aa.ac (st.ak - 1)) && (st.aj.all (Ua st.aa.ac st.aw) && XH st.aa.ac (st.ag ++ st.aj))))) := ⟨by show _ = _; rw [← Znw]; simp [Za.ok, H64.out, hsp, htx, hkp]⟩;generalize Zdp st.aa.ah st.aa.ah.length = mx at HM HLB HLG;have HM := Bx.mk HM
     by_cases hmx : mx ≤ st.ak
     rotate_left
     ·have hmx' : decide (st.ak < mx) = true := by simp; omega
      have HB : Bx (st.ok = false) := ⟨by show _ = _; rw [HST.out, HLB.out hmx]; rfl⟩;clear hf hsp htx hkp
      go_enter func18, ntmps18
      go_wp2_with fail
      generalize w.alloc (.cells #[.slice a0 st.af.length c0, .slice a1 st.aa.ac.length c1, .slice a2 st.aa.ah.length c2, .int .i64 st.ak, .slice a4 st.ag.length c4, .int .i64 st.aw, .slice a6 st.aj.length c6, .bool st.ax] 29) = W0 at *;refine Yq (by kernel_rfl) (by kernel_rfl) ?_
      repeat (go_big_quiet_step (first | (go_at_call 46; with_reducible exact E.o _) | (go_at_call 47; first | with_reducible exact HW1.out _ | with_reducible exact HW2.out _) | (go_at_call 48; with_reducible exact HM.o _)))
      refine wpQuiet_nil ?_;intro _ hw';obtain ⟨nq, hw''⟩ := hw';subst hw''
      go_wp2
      go_ret
      exact ⟨Zs HB.out.symm, H0.out.trans (nq.below.mono H0.out.size)⟩
     ·have hmx' : decide (st.ak < mx) = false := by simp; omega
      have HLG := Bx.mk (HLG.out hmx);have hg4 := hf.f4;have hg6 := hf.f6;clear hf hsp htx hkp
      go_enter func18, ntmps18
      go_wp2_with fail
      generalize w.alloc (.cells #[.slice a0 st.af.length c0, .slice a1 st.aa.ac.length c1, .slice a2 st.aa.ah.length c2, .int .i64 st.ak, .slice a4 st.ag.length c4, .int .i64 st.aw, .slice a6 st.aj.length c6, .bool st.ax] 29) = W0 at *;refine Yq (by kernel_rfl) (by kernel_rfl) ?_
      repeat (go_big_quiet_step (first | (go_at_call 46; with_reducible exact E.o _) | (go_at_call 47; first | with_reducible exact HW1.out _ | with_reducible exact HW2.out _) | (go_at_call 48; with_reducible exact HM.o _)))
      refine wpQuiet_nil ?_;intro _ hw';obtain ⟨nq, hw''⟩ := hw';subst hw'';have hA1 := ZG HA0.out nq.below (Nat.le_refl _);have hb1 := H0.out.trans (nq.below.mono H0.out.size);clear q0 q1 q2 q3 q5;generalize nq.val = w1 at hA1 hb1 ⊢;have p0 : w1.cell? ⟨w.heap.size, 0, none⟩ = some (.slice a0 st.af.length c0) := Zh hA1 0
      go_wp2
      clear p0
      go_loopw [46] (fun i wr => ∃ k : Nat, k ≤ 64 ∧ i = .int .i64 k ∧ Xq st k = true ∧ Below w.heap.size w wr ∧ wr.heap[w.heap.size]? = some (.cells #[.slice a0 st.af.length c0, .slice a1 st.aa.ac.length c1, .slice a2 st.aa.ah.length c2, .int .i64 st.ak, .slice a4 st.ag.length c4, .int .i64 st.aw, .slice a6 st.aj.length c6, .bool st.ax] 29 (0, 0))) (fun i _ => 64 - (intOf i).toNat)
      case atStart => exact ⟨0, by omega, rfl, rfl, hb1, hA1⟩
      case round =>
       obtain ⟨k, hk, rfl, hok, hb, hA⟩ := hrel;have HOK := Bx.mk hok;clear hok hb1 hA1
       by_cases hlt : k < 64
       ·obtain ⟨b, off, s, hx0, rfl, hbl, hrg⟩ := r0.at_ k (by rw [H64.out]; exact hlt)
        have d0 := (ZJ hrg hb hbl) 0 _ rfl;obtain ⟨b1, off1, r, hx1, rfl, hbl1, hrg1⟩ := r1.at_ k (by rw [HSP.out.refs]; exact hlt);have d1 := (ZJ hrg1 hb hbl1) 0 _ rfl;simp only [Nat.mul_one, Nat.add_zero] at d0 d1;have e0 := XZ (d := ByteArray.empty) hx0;have e1 := XZ (d := (0 : Int)) hx1;have hrow : Bx (YZ st k = (decide (s.size ≤ 128) && ((s.size == 0) == (r == 0) && decide (st.aa.ah.getD k 0 ≤ st.ak)))) := ⟨by show _ = _; unfold YZ; rw [e0, e1]⟩;have hlast : Bx (YZ st k = false → st.ok = false) := ⟨fun h => by rw [HST.out, ZdF hlt h]; rfl⟩;have hnext : Bx (YZ st k = true → Xq st (k + 1) = true) := ⟨fun h => by rw [ZcT, HOK.out, h]; rfl⟩;have hlk := Bx.mk (decide_eq_true (HLG.out k hlt));have hlen0 : k < st.af.length := by rw [H64.out]; exact hlt
        have hlen1 : k < st.aa.ac.length := by rw [HSP.out.refs]; exact hlt
        have p1 : wr.cell? ⟨w.heap.size, 1, none⟩ = some (.slice (some ⟨b1, off1, none⟩) st.aa.ac.length c1) := Zh hA 1;have HA := Bx.mk hA;clear hx0 hx1 hrg hrg1 hA e0 e1
        by_cases g1 : s.size ≤ 128
        rotate_left
        ·have HR : Bx (YZ st k = false) := ⟨by show _ = _; rw [hrow.out]; simp [g1]⟩
         have g1' : decide ((128 : Int) < (s.size : Int)) = true := by simp; omega
         go_wp2
         go_ret
         exact ⟨Zs (hlast.out HR.out).symm, hb⟩
        ·have g1' : decide ((128 : Int) < (s.size : Int)) = false := by simp; omega
         have e1 : ∀ (cb : Bool), (s.size == 0) = cb → s.toList.isEmpty = cb := fun cb h => ZfA s cb h
         cases gs : (s.size == 0)
         all_goals
          have gs2 := e1 _ gs;clear e1
          cases gr : (r == 0)
         ·have HR : Bx (YZ st k = true) := ⟨by show _ = _; rw [hrow.out, hlk.out, gs, gr]; simp [g1]⟩
          go_wp2
          go_roundw
          case rel => exact ⟨k + 1, by omega, by go_num, hnext.out HR.out, hb, HA.out⟩
          case measure => simp [intOf]; omega
         ·have HR : Bx (YZ st k = false) := ⟨by show _ = _; rw [hrow.out]; simp [gs, gr]⟩
          go_wp2
          go_ret
          exact ⟨Zs (hlast.out HR.out).symm, hb⟩
         ·have HR : Bx (YZ st k = false) := ⟨by show _ = _; rw [hrow.out]; simp [gs, gr]⟩
          go_wp2
          go_ret
          exact ⟨Zs (hlast.out HR.out).symm, hb⟩
         ·have HR : Bx (YZ st k = true) := ⟨by show _ = _; rw [hrow.out, hlk.out, gs, gr]; simp [g1]⟩
          go_wp2
          go_roundw
          case rel => exact ⟨k + 1, by omega, by go_num, hnext.out HR.out, hb, HA.out⟩
          case measure => simp [intOf]; omega
       ·have hk' : k = 64 := by omega
        subst hk';have hmf : ∀ (fn : Fn) (first cap : Array Value) (w : World), (Instr.makeFunc fn first cap).run prog w = .ok (.func fn first cap) w := fun _ _ _ _ => rfl
        have hlen : ((st.af.length : Nat) : Int) = 64 := by rw [H64.out]; rfl
        obtain ⟨i0, hi, hz0, hz1, hz2⟩ := info_parts Tryz.infoIntS
        go_wp2_with (refine wpList_make_full _ rfl (.const (.int .i64 64)) (.const (.int .i64 64)) 24 rfl wr.heap.size 3 i0 _ 1 Tryz.underlying24 hi hz0 hz1 .i64 .i64 _ _ 64 rfl rfl rfl rfl ?b2 ?b3 ?b4 ?_)
        case b2 => rw [hz2]; omega
        case b3 => unfold maxLen; omega
        case b4 => exact Nat.le_refl _
        intro wm hown hg;have hbm : Below w.heap.size w wm := hb.grown hg hb.size (by simp);have hAm := Zfd hA hg (by simp);have hgm : w.heap.size < wr.heap.size := Jf hA;have hown : wm.ownsRow wr.heap.size 3 1 (.slice (some ⟨wr.heap.size, 0, none⟩) 64 64) 64 (YR ([] : List PtrD)) := by rw [show ([] : List PtrD) = (([] : List PtrD).take 0) from rfl, ← Zfg]; exact hown
        generalize wr.heap.size = g at hown hgm ⊢;have hgw : g < wm.heap.size := (hown.lt g (by simp [Value.ownBlock])).2;have hsw := Jf hAm;have p3 : wm.cell? ⟨w.heap.size, 3, none⟩ = some (.int .i64 st.ak) := Zh hAm 3;have p4 : wm.cell? ⟨w.heap.size, 4, none⟩ = some (.slice a4 st.ag.length c4) := Zh hAm 4;clear hb hA hg hi hz0 hz1 hz2 hlt hk r0 r2
        go_wp2_with fail
        have hM := YO wm (.cells #[.slice (some ⟨g, 0, none⟩) 64 64] 24) _ rfl;have hAa := UB hAm (.cells #[.slice (some ⟨g, 0, none⟩) 64 64] 24);have hoa := hown.alloc (.cells #[.slice (some ⟨g, 0, none⟩) 64 64] 24);have hba := hbm.alloc hbm.size (.cells #[.slice (some ⟨g, 0, none⟩) 64 64] 24);refine (ZfB a4 _ c4 [] st.ag (st.ak - 1) st.aa.ac a1 c1 #[.slice a0 st.af.length c0, .slice a1 st.aa.ac.length c1, .slice a2 st.aa.ah.length c2, .int .i64 st.ak, .slice a4 st.ag.length c4, .int .i64 st.aw, .slice a6 st.aj.length c6, .bool st.ax] w.heap.size g wm.heap.size w _ hg4 (by simp) HSP.out.refs hgm hgw (Nat.le_of_lt hgm) hba rfl r1 r4 hAa hM hoa).mono ?_;rintro e w2 ⟨rfl, hb2, hif2⟩;have HIF2 := Bx.mk hif2;have HGW := Bx.mk hgw;clear hif2 hM hAa hoa hba hown hbm hAm p3 p4 hsw;generalize wm.heap.size = m at *
        cases hg1 : st.ag.all (Ua st.aa.ac (st.ak - 1))
        ·have HB : Bx (st.ok = false) := ⟨by show _ = _; rw [HST.out, hg1]; simp⟩
         go_wp2
         go_ret
         exact ⟨Zs HB.out.symm, hb2⟩
        ·obtain ⟨hA2, hM2, ho2⟩ := HIF2.out hg1
         simp only [nil_append] at ho2;have p5 : w2.cell? ⟨w.heap.size, 5, none⟩ = some (.int .i64 st.aw) := Zh hA2 5;have p6 : w2.cell? ⟨w.heap.size, 6, none⟩ = some (.slice a6 st.aj.length c6) := Zh hA2 6;clear HIF2
         go_wp2_with fail
         refine (ZfB a6 _ c6 st.ag st.aj st.aw st.aa.ac a1 c1 #[.slice a0 st.af.length c0, .slice a1 st.aa.ac.length c1, .slice a2 st.aa.ah.length c2, .int .i64 st.ak, .slice a4 st.ag.length c4, .int .i64 st.aw, .slice a6 st.aj.length c6, .bool st.ax] w.heap.size g m w _ hg6 hg4 HSP.out.refs hgm HGW.out (Nat.le_of_lt hgm) hb2 rfl r1 r6 hA2 hM2 ho2).mono ?_;rintro e w3 ⟨rfl, hb3, hif3⟩;have HIF3 := Bx.mk hif3;clear hif3 hb2 hA2 hM2 ho2 p5 p6
         cases hg2 : st.aj.all (Ua st.aa.ac st.aw)
         ·have HB : Bx (st.ok = false) := ⟨by show _ = _; rw [HST.out, hg2]; simp⟩
          go_wp2
          go_ret
          exact ⟨Zs HB.out.symm, hb3⟩
         ·obtain ⟨hA3, hM3, ho3⟩ := HIF3.out hg2
          have pm : w3.cell? ⟨m, 0, none⟩ = some (.slice (some ⟨g, 0, none⟩) 64 64) := Zh hM3 0;have p1 : w3.cell? ⟨w.heap.size, 1, none⟩ = some (.slice a1 st.aa.ac.length c1) := Zh hA3 1;have HST2 : Bx (st.ok = XH st.aa.ac (st.ag ++ st.aj)) := ⟨by show _ = _; rw [HST.out, HOK.out, hg1, hg2]; simp⟩;have HO3 := Bx.mk ho3;have HG1 := Bx.mk hg1;have HG2 := Bx.mk hg2;clear HIF3 hA3 hM3 ho3 hg1 hg2
          go_wp2
          go_loop [88] (fun i => ∃ k : Nat, k ≤ 64 ∧ i = .int .i64 k ∧ Zec st.aa.ac (st.ag ++ st.aj) k = true) (fun i => 64 - (intOf i).toNat)
          case atStart => exact ⟨0, by omega, rfl, rfl⟩
          case round =>
           obtain ⟨k, hk, rfl, how⟩ := hrel;have HOW := Bx.mk how;clear how
           by_cases hlt : k < 64
           ·have hca : w3.cell? ⟨g, k, none⟩ = some (.int .i64 (cnt (st.ag ++ st.aj) k : Nat)) := by rw [HO3.out.cellAt k (by omega)]; exact Xp _ _ hlt
            have hbad : Bx (st.aa.ac.getD k 0 < (cnt (st.ag ++ st.aj) k : Int) → st.ok = false) := ⟨fun h => by rw [HST2.out, ZlY hlt h]⟩;have hnext : Bx ((cnt (st.ag ++ st.aj) k : Int) ≤ st.aa.ac.getD k 0 → Zec st.aa.ac (st.ag ++ st.aj) (k + 1) = true) := ⟨fun h => by rw [ZhA, HOW.out]; simpa using h⟩;obtain ⟨b1, off1, r, hx1, rfl, hbl1, hrg1⟩ := r1.at_ k (by rw [HSP.out.refs]; exact hlt);have g1 := (ZJ hrg1 hb3 hbl1) 0 _ rfl;simp only [Nat.mul_one, Nat.add_zero] at g1;rw [XZ (d := (0 : Int)) hx1] at hbad hnext;have hl1 : k < st.aa.ac.length := by rw [HSP.out.refs]; exact hlt
            have hcl := Zgg (st.ag ++ st.aj) k;rw [length_append] at hcl;clear hx1 hrg1;generalize cnt (st.ag ++ st.aj) k = cn at hca hbad hnext hcl
            by_cases hle : (cn : Int) ≤ r
            ·have hcmp : decide (r < (cn : Int)) = false := by simp; omega
             go_wp2
             go_round
             case rel => exact ⟨k + 1, by omega, by go_num, hnext.out hle⟩
             case measure => simp [intOf]; omega
            ·have hcmp : decide (r < (cn : Int)) = true := by simp; omega
             go_wp2
             go_ret
             exact ⟨Zs (hbad.out (by omega)).symm, hb3⟩
           ·have hk' : k = 64 := by omega
            subst hk'
            go_wp2
            go_ret
            exact ⟨Zs (HST2.out.trans HOW.out).symm, hb3⟩
theorem VU (n : Int) (w0 : World) : Calls prog 161 #[.int .i64 n] w0 fun e w' => e = .returned (.int .i64 ((depthN n : Nat) : Int)) ∧ Below w0.heap.size w0 w' := by
 have E := Bx.mk (St.start w0);refine ent func161 ntmps161 ?_;refine xsr<|xr 1 rfl<|xne<|xsq<|xbl<|xsr<|xr 3 rfl<|xne<|xcd 3 rfl (fun _ dcc1=>?_) fun _ dcc1=>?_;refine xct rfl<|xsr<|xr 1 rfl<|xne<|xre<|xbr<|xtr<|xb1 results161 rfl ?_;have hd : ((depthN n : Nat) : Int) = 0 := by unfold depthN; rw [if_pos (by omega)]; rfl
 exact ⟨by rw [hd], E.o.bel⟩;refine xcf rfl<|xsr<|xr 3 rfl<|xne<|xcd 6 rfl (fun _ dcc2=>?_) fun _ dcc2=>?_;refine xct rfl<|xsr<|xr 1 rfl<|xne<|xre<|xbr<|xtr<|xb1 results161 rfl ?_;have hd : ((depthN n : Nat) : Int) = 1 := by unfold depthN; rw [if_neg (by omega), if_pos (by omega)]; rfl
 exact ⟨by rw [hd], E.o.bel⟩;refine xcf rfl<|xsk<|xeb<|xet<|xsr<|xr 1 rfl<|xne<|xre<|xb1 results161 rfl ?_;have hd : ((depthN n : Nat) : Int) = 2 := by unfold depthN; rw [if_neg (by omega), if_neg (by omega)]; rfl
 exact ⟨by rw [hd], E.o.bel⟩
theorem UJ {xs : List PtrD} {i : Nat} (h : i < xs.length) : xs.drop i = xs.getD i PtrD.zero :: xs.drop (i + 1) := by
 rw [List.drop_eq_getElem_cons h, getD_eq_getElem?_getD, List.getElem?_eq_getElem h, getD_some]
theorem Zkj {f : PtrD → Option (List PtrD)} {xs ys k : List PtrD} {i : Nat} (h : YE f xs = (YE f (xs.drop i)).map (ys ++ ·)) (hi : i < xs.length) (hk : f (xs.getD i PtrD.zero) = some k) : YE f xs = (YE f (xs.drop (i + 1))).map ((ys ++ k) ++ ·) := by
 rw [h, UJ hi, Zaj hk, Znq]
theorem Zkk {f : PtrD → Option (List PtrD)} {xs ys : List PtrD} {i : Nat} (h : YE f xs = (YE f (xs.drop i)).map (ys ++ ·)) (hi : i < xs.length) (hk : f (xs.getD i PtrD.zero) = none) : YE f xs = none := by
 rw [h, UJ hi, VO hk]; rfl
theorem Zl0 {f : PtrD → Option (List PtrD)} {xs ys : List PtrD} {i : Nat} (h : YE f xs = (YE f (xs.drop i)).map (ys ++ ·)) (hi : ¬ i < xs.length) : YE f xs = some ys := by
 rw [h, List.drop_eq_nil_of_le (by omega)];show some (ys ++ []) = _;rw [append_nil]
theorem ZiG {f : PtrD → Option (List PtrD)} {xs : List PtrD} : YE f xs = (YE f (xs.drop 0)).map (([] : List PtrD) ++ ·) := by
 rw [drop_zero]
 cases YE f xs <;> rfl
theorem X5 {st : Za} {many : Int} {xs : List PtrD} {i : Nat} (h : X3 st many 0 xs = X3 st many i (xs.drop i)) (hi : i < xs.length) : X3 st many 0 xs = (Zay st many i (xs.getD i PtrD.zero) && X3 st many (i + 1) (xs.drop (i + 1))) := by
 rw [h, UJ hi]; rfl
theorem ZhB {st : Za} {many : Int} {xs : List PtrD} {i : Nat} (h : X3 st many 0 xs = X3 st many i (xs.drop i)) (hi : ¬ i < xs.length) : X3 st many 0 xs = true := by
 rw [h, List.drop_eq_nil_of_le (by omega)]; rfl
theorem Yo {xs : List PtrD} {i : Nat} (h : i < xs.length) : xs.getD i PtrD.zero ∈ xs := by
 rw [getD_eq_getElem?_getD, List.getElem?_eq_getElem h]; exact List.getElem_mem h
theorem Zl1 {n : Nat} (h : n ≤ 2) : 4 ^ n ≤ 16 := by
 rcases (by omega : n = 0 ∨ n = 1 ∨ n = 2) with rfl | rfl | rfl <;> decide
theorem Zkl {xs ys : List PtrD} {n i : Nat} (h : xs.length * 4 ^ (n + 1) ≤ 16) (hy : ys.length = 4 * i) (hi : i = xs.length) : ys.length * 4 ^ n ≤ 16 := by
 subst hi;rw [hy];rw [Nat.pow_succ] at h;have e : 4 * xs.length * 4 ^ n = xs.length * (4 ^ n * 4) := by rw [Nat.mul_comm 4 xs.length, Nat.mul_assoc, Nat.mul_comm 4 (4 ^ n)]
 omega
theorem Znx {xs : List PtrD} {n : Nat} (h : xs.length * 4 ^ n ≤ 16) : xs.length ≤ 16 := by
 have h1 : 1 ≤ 4 ^ n := Nat.pos_of_ne_zero (by simp);have : xs.length * 1 ≤ xs.length * 4 ^ n := Nat.mul_le_mul_left _ h1
 omega
theorem X6 {st : Za} {p : PtrD} {n : Int} {k : List PtrD} (h : kidsS st p n = some k) : k.length = 4 := VS (UH h).1
theorem ZbK (a0 : Option Addr) (c0 : Nat) (a1 : Option Addr) (c1 : Nat) (a2 : Option Addr) (c2 : Nat) (a4 : Option Addr) (c4 : Nat) (a6 : Option Addr) (c6 : Nat) (st : Za) (t : Ze) (hdep : t.az = ((depthN t.am : Nat) : Int)) (w0 : World) (hR : Rd Zx 1 w0 a0 st.af.length st.af) (hrow : Xu st) : Calls prog 159 #[sV a0 c0 a1 c1 a2 c2 a4 c4 a6 c6 st, tV t] w0 fun e w' => (∃ l, downL (kidsS st) (depthN t.am) [t.ai] = some l ∧ ∃ ao cp, e = .returned (.tuple #[.slice ao l.length cp, .bool true]) ∧ St w0 [Zf PtrD.cells 5 31 (.slice ao l.length cp) l] w') ∨ (downL (kidsS st) (depthN t.am) [t.ai] = none ∧ ∃ ao n cp, e = .returned (.tuple #[.slice ao n cp, .bool false]) ∧ Below w0.heap.size w0 w') := by
 have HR := Bx.mk hR; clear hR;have E := Bx.mk (St.start w0);refine ent func159 ntmps159 ?_;refine xsr ?_;refine ybx E ?_;clear E;intro w1 b1 E;refine ybx E ?_;clear E;intro w2 b2 E;refine xr 2 rfl<|xne<|xsr<|Xf 0 rfl<|Xw 0 5 E rfl rfl ?_;refine ybs PtrD.cells 31 5 [t.ai] E ?_;clear E;intro b3 w3 E;refine xr 1 rfl<|xne<|xsq<|xsr<|Xf 5 rfl<|Xl 1 E rfl rfl<|xr 1 rfl<|xne<|xbl ?_;replace E:=E.pks [0];intro a J;refine Zt (ι := Nat) (fun n a w => ∃ (ao : Option Addr) (cp : Nat) (xs : List PtrD), (downL (kidsS st) (depthN t.am) [t.ai] = downL (kidsS st) n xs ∧ xs.length * 4 ^ n ≤ 16 ∧ n ≤ 2) ∧ Fr 46 a [(0, sV a0 c0 a1 c1 a2 c2 a4 c4 a6 c6 st), (1, tV t), (2, .pointer (some ⟨b1, 0, none⟩)), (3, .pointer (some ⟨b2, 0, none⟩)), (4, .slice none 0 0), (5, .bool false), (6, .slice ao xs.length cp), (7, .int .i64 (n : Int))] ∧ St w0 ([Zf PtrD.cells 5 31 (.slice ao xs.length cp) xs, boxA b2 7 81 (tV t), boxA b1 8 29 (sV a0 c0 a1 c1 a2 c2 a4 c4 a6 c6 st)]) w) (fun n => n) (depthN t.am) ⟨_, _, [t.ai], ⟨rfl, by simpa using Zl1 (YG t.am), YG _⟩, J.less _ ⟨rfl, rfl, rfl, rfl, rfl, rfl, rfl, (by show some (Value.int .i64 _) = some (Value.int .i64 _); exact congrArg (fun z => some (Value.int .i64 z)) hdep), trivial⟩, E.o⟩ ?_;clear J E; clear a;rintro n a w4 ⟨ao, cp, xs, ⟨hd, hp4, hn2⟩, J, E⟩;replace E := Bx.mk E;have hx16 := Znx hp4;revert a;refine xsq<|xsr<|xr 2 rfl<|xne<|xcd 18 rfl (fun _ dcc1=>?_) fun _ dcc1=>?_
 obtain ⟨n, rfl⟩ : ∃ m, n = m + 1 := ⟨n - 1, by omega⟩;refine xct rfl<|xsk<|xet<|xsq<|xbl<|xsr ?_;refine yem 31 5 E ?_;clear E;intro w5 b4 E;refine xr 1 rfl<|xne<|xsq<|xsr<|xr 1 rfl<|xne<|xbl ?_;replace E := Bx.mk (E.o.nilRow PtrD.cells 5 31 (some ⟨b4, 0, none⟩));intro a J;refine Zt (ι := Nat) (fun i a w => ∃ (ay : Option Addr) (cy : Nat) (ys : List PtrD), (i ≤ xs.length ∧ YE (fun p => kidsS st p ((n + 1 : Nat) : Int)) xs = (YE (fun p => kidsS st p ((n + 1 : Nat) : Int)) (xs.drop i)).map (ys ++ ·) ∧ ys.length = 4 * i) ∧ Fr 46 a [(0, sV a0 c0 a1 c1 a2 c2 a4 c4 a6 c6 st), (1, tV t), (2, .pointer (some ⟨b1, 0, none⟩)), (3, .pointer (some ⟨b2, 0, none⟩)), (4, .slice none 0 0), (5, .bool false), (6, .slice ao xs.length cp), (7, .int .i64 ((n + 1 : Nat) : Int)), (8, .slice ay ys.length cy), (9, .int .i64 (i : Int))] ∧ St w0 ([Zf PtrD.cells 5 31 (.slice ay ys.length cy) ys, Zf PtrD.cells 5 31 (.slice ao xs.length cp) xs, boxA b2 7 81 (tV t), boxA b1 8 29 (sV a0 c0 a1 c1 a2 c2 a4 c4 a6 c6 st)]) w) (fun i => xs.length - i) 0 ⟨_, _, [], ⟨Nat.zero_le _, ZiG, rfl⟩, J.ls _, E.o⟩ ?_;clear J E; clear a;rintro i a w6 ⟨ay, cy, ys, ⟨hi, hnx, hyl⟩, J, E⟩;replace E := Bx.mk E;revert a;refine xsq<|xsr<|xr 2 rfl<|xy rfl (vn 31 5 rfl)<|xr 1 rfl<|xne<|xcd 25 rfl (fun _ dcc2=>?_) fun _ dcc2=>?_
 refine xct rfl<|xsk<|xet<|xsq<|xbl<|xsq ?_;obtain ⟨g5, rfl, _, _, _, _⟩ := E.o.rowOpen 1 rfl (by omega);refine hld [] E ?_;clear E;intro w7 E M;refine Hw 0 3 8 E rfl rfl<|Hp 1 E rfl<|Hp 2 E rfl<|xhy 3 E.o rfl rfl (fun E=>vx 31 i 5 rfl)<|xhy 4 E.o rfl rfl (fun E a J=>ylr (cs := pL (xs.getD i PtrD.zero)) rfl (J.ev rfl) (E.elem PtrD.cells_len 1 rfl (Zg (xs := xs) (j := i) (d := PtrD.zero) (by omega))))<|Hp 5 E rfl ?_;refine Zq 6 ?_;refine yo (Un a0 c0 a1 c1 a2 c2 a4 c4 a6 c6 st (xs.getD i PtrD.zero) ((n + 1 : Nat) : Int) _ (HR.out.below M.o.bel) hrow) func156 ?_;rintro _ w9 (⟨l6, hk6, ao6, cp6, rfl, hs1⟩ | ⟨hk6, ao6, nn6, cp6, rfl, hb⟩);have hll6 := X6 hk6;refine ⟨_, rfl, ?_⟩; replace E := Bx.mk (E.o.later hs1.bel); replace M := M.ad hs1;clear hs1;intro a J;replace M:=M.nm; refine ⟨E.o, ?_⟩;revert a;refine Hp 7 E rfl<|Hp 8 E rfl<|Hp 9 E rfl<|Hp 10 E rfl<|Hp 11 E rfl ?_;refine hdn ?_;replace E := M; clear M;refine xet<|xsq<|xsr<|xr 2 rfl<|xne<|xcf rfl<|xsk<|xet<|xrl<|xr 2 rfl ?_;refine yap Xj PtrD.cells_len E 1 (St.rdOf E.o PtrD.cells_len 0 rfl) (Zz _) ?_;clear E;intro ao7 cp8 w10 E;refine xr 1 rfl<|xni<|xeb<|xet<|xrl<|xr 1 rfl<|xy rfl (vad rfl)<|xr 1 rfl<|xne ?_;have hz : ys.length + l6.length = (ys ++ l6).length := (length_append ..).symm;intro a J;rw [hz] at E J;have hl4 := X6 hk6; have hyl2 : (ys ++ l6).length = 4 * (i + 1) := by rw [length_append]; omega
 replace E:=E.pks [4,4,4,4];exact ⟨i + 1, ⟨_, _, ys ++ l6, ⟨by omega, Zkj hnx (by omega) hk6, hyl2⟩, J.less _ ⟨rfl, rfl, rfl, rfl, rfl, rfl, rfl, rfl, rfl, rfl, trivial⟩, (E.o.erase 4)⟩, (by omega)⟩;refine ⟨_, rfl, ?_⟩; replace E := Bx.mk (E.o.later hb); replace M := Bx.mk (M.o.later hb);clear hb; refine onb E.o ?_;refine Hp 7 E rfl<|Hp 8 E rfl<|Hp 9 E rfl<|Hp 10 E rfl<|Hp 11 E rfl ?_;refine hdn ?_;replace E := M; clear M;refine xet<|xsq<|xsr<|xr 2 rfl<|xne<|xct rfl<|xsr ?_;refine yem 31 5 E ?_;clear E;intro w11 b9 E;refine xr 2 rfl<|xne<|xre<|xtr<|xbr<|xtr<|xtr<|xbr<|xtr<|xbr<|xtr<|xtr<|xbr<|xtr<|xb2 results159 rfl rfl ?_;exact .inr ⟨hd.trans (JV (Zkk hnx (by omega) hk6)), _, _, _, rfl, E.o.bel⟩;refine xcf rfl<|xex<|xtx<|xtx<|xbh<|xet<|xrl<|xr 2 rfl<|xni<|xeb<|xet<|xrl<|xr 1 rfl<|xy rfl (fun a J=>ZH (r := (n : Int)) rfl (J.ev rfl) (J.ev rfl) ((Z5 (by omega)).trans (by omega)))<|xr 1 rfl<|xne ?_;replace E:=E.pks [3,3,2];intro a J;exact ⟨n, ⟨_, _, ys, ⟨(hd.trans (Jz (Zl0 hnx (by omega)))), Zkl hp4 hyl (by omega), by omega⟩, J.less _ ⟨rfl, rfl, rfl, rfl, rfl, rfl, rfl, rfl, trivial⟩, (E.o.erase 3)⟩, (Nat.lt_succ_self _)⟩;obtain rfl : n = 0 := by omega
 refine xcf rfl<|xex<|xtx<|xtx<|xbh<|xet<|xsr<|xr 3 rfl<|xne<|xre<|xb2 results159 rfl rfl ?_;exact .inl ⟨xs, hd, _, _, rfl, (E.o.erS [2,1])⟩
theorem ZhC {st : Za} : ∀ {n : Nat} {l m : List PtrD}, (∀ p ∈ l, p.ok = true) → downL (kidsS st) n l = some m → ∀ p ∈ m, p.ok = true
 | 0, l, m, h, hd => by obtain rfl : l = m := Option.some.inj hd; exact h
 | n + 1, l, m, h, hd => by
  cases hn : YE (fun p => kidsS st p ((n + 1 : Nat) : Int)) l with
  | none => rw [JV hn] at hd; cases hd
  | some x =>
   rw [Jz hn] at hd;refine ZhC (fun q hq => ?_) hd;obtain ⟨p, _, k, hk, hq⟩ := (Zcn hn).2.1 q hq;exact (QG (UH hk).1).2.1 q hq
theorem ZiH {st : Za} {many : Int} {i : Nat} {p : PtrD} (h : p.hole = true) : Zay st many i p = true := by unfold Zay; rw [h]; rfl
theorem VV {st : Za} {many : Int} {i : Nat} {p : PtrD} (h : p.hole = false) : Zay st many i p = (XM st p && ((p.ar == 0) && (decide (p.al ≤ st.ak) && decide ((i : Int) < many)))) := by unfold Zay; rw [h]; rfl
theorem Zl2 (a0 : Option Addr) (c0 : Nat) (a1 : Option Addr) (c1 : Nat) (a2 : Option Addr) (c2 : Nat) (a4 : Option Addr) (c4 : Nat) (a6 : Option Addr) (c6 : Nat) (st : Za) (t : Ze) (w0 : World) (hR : Rd Zx 1 w0 a0 st.af.length st.af) (hrow : Xu st) : Calls prog 150 #[sV a0 c0 a1 c1 a2 c2 a4 c4 a6 c6 st, tV t] w0 fun e w' => e = .returned (.bool (okS st t)) ∧ Below w0.heap.size w0 w' := by
 have HR := Bx.mk hR; clear hR;have E := Bx.mk (St.start w0);refine ent func150 ntmps150 ?_;refine xsr ?_;refine ybx E ?_;clear E;intro w1 b1 E;refine ybx E ?_;clear E;intro w2 b2 E;refine xr 1 rfl<|xne<|xsq<|xsq ?_;intro a J;refine Z1 (by kernel_rfl) (by kernel_rfl) E.o ?_;revert a;refine Qf 6 rfl<|Ql 0 rfl rfl ?_;refine yq (fun _ E => ((Z0 t.am 0 16 _).mono fun _ _ h => ⟨h.1, h.2 ▸ Below.refl _ _⟩)) func51 ?_;refine xqr 2 rfl<|xcs 15 rfl (fun cc1=>?_) fun cc1=>?_;refine xqr 13 rfl ?_;intro a J;refine wpQuiet_nil ?_; intro w3 E; replace E := Bx.mk E;revert a;refine xet<|xct rfl<|xsr<|xr 1 rfl<|xne<|xre<|xtr<|xb1 results150 rfl ?_;have htop : ZaT t = false := by
   have h : inB t.am 0 16 = false := (by simpa using cc1); unfold ZaT; rw [h]; rfl
 exact ⟨by rw [Zdy htop], E.o.bel⟩;have inT : inB t.am 0 16 = true := by simpa using cc1
 refine Qf 5 rfl<|Ql 0 rfl rfl<|Qf 6 rfl<|Ql 0 rfl rfl ?_;refine yqg (fun _ E => VU t.am _) func161 ?_;refine xqr 3 rfl<|xcn 23 rfl (fun _ dcc2=>?_) fun _ dcc2=>?_;refine xqr 5 rfl ?_;intro a J;refine wpQuiet_nil ?_; intro w4 E; replace E := Bx.mk E;revert a;refine xet<|xct rfl<|xsr<|xr 1 rfl<|xne<|xre<|xtr<|xb1 results150 rfl ?_;have htop : ZaT t = false := by
   have h : (t.az == ((depthN t.am : Nat) : Int)) = false := (by simpa using dcc2); unfold ZaT; rw [h]; simp
 exact ⟨by rw [Zdy htop], E.o.bel⟩;have hdep : t.az = ((depthN t.am : Nat) : Int) := dcc2;refine Qf 0 rfl<|Qw 0 5 rfl rfl ?_;refine yqg (fun _ E => ZQ t.ai _) func43 ?_;refine xqr 2 rfl ?_;intro a J;refine wpQuiet_nil ?_; intro w5 E; replace E := Bx.mk E;revert a;refine xet<|xcs 28 rfl (fun cc3=>?_) fun cc3=>?_
 refine xct rfl<|xsr<|xr 1 rfl<|xne<|xre<|xtr<|xb1 results150 rfl ?_;have htop : ZaT t = false := by
   have h : t.ai.ok = false := (by simpa using cc3); unfold ZaT; rw [h]; simp
 exact ⟨by rw [Zdy htop], E.o.bel⟩;have hok : t.ai.ok = true := by simpa using cc3
 have htop : ZaT t = true := by unfold ZaT; rw [hok, inT, beq_iff_eq.2 hdep]; rfl
 refine xcf rfl<|xsk<|xet<|xsr<|Xw 1 8 E rfl rfl<|Xw 0 7 E rfl rfl ?_;refine yc (ZbK a0 c0 a1 c1 a2 c2 a4 c4 a6 c6 st t hdep _ (HR.out.below E.o.bel) hrow) func159 ?_;rintro _ w6 (⟨l3, hk3, ao3, cp3, rfl, hs1⟩ | ⟨hk3, ao3, nn3, cp3, rfl, hb⟩);refine ⟨_, rfl, ?_⟩; replace E := E.ad hs1;clear hs1;refine xr 5 rfl<|xne<|xsq<|xsr<|xr 2 rfl<|xne<|xcf rfl<|xsk<|xet<|xsq<|xsq ?_;have hoks := ZhC (fun p hp => by rw [mem_singleton.1 hp]; exact hok) hk3; have hll : l3.length ≤ 16 := by rw [Zco (fun p n k => X6) hk3]; simpa using Zl1 (YG t.am)
 refine xrl<|xr 1 rfl<|xne<|xbl ?_;intro a J;refine Zt (ι := Nat) (fun i a w => (i ≤ l3.length ∧ X3 st t.am 0 l3 = X3 st t.am i (l3.drop i)) ∧ Fr 75 a [(0, sV a0 c0 a1 c1 a2 c2 a4 c4 a6 c6 st), (1, tV t), (2, .pointer (some ⟨b1, 0, none⟩)), (3, .pointer (some ⟨b2, 0, none⟩)), (4, .bool false), (5, .slice ao3 l3.length cp3), (6, .bool true), (7, .int .i64 (i : Int))] ∧ St w0 ([Zf PtrD.cells 5 31 (.slice ao3 l3.length cp3) l3, boxA b2 7 81 (tV t), boxA b1 8 29 (sV a0 c0 a1 c1 a2 c2 a4 c4 a6 c6 st)]) w) (fun i => l3.length - i) 0 ⟨⟨Nat.zero_le _, by rw [drop_zero]⟩, J.less _ ⟨rfl, rfl, rfl, rfl, rfl, rfl, rfl, rfl, trivial⟩, E.o⟩ ?_;clear J E; clear a;rintro i a w7 ⟨⟨hi, hlv⟩, J, E⟩;replace E := Bx.mk E;revert a;refine xsq<|xsr<|xr 2 rfl<|xy rfl (vn 31 5 rfl)<|xr 1 rfl<|xne<|xcd 40 rfl (fun _ dcc4=>?_) fun _ dcc4=>?_
 refine xct rfl<|xsk<|xet<|xsq<|xbl<|xsq ?_;obtain ⟨g4, rfl, _, _, _, _⟩ := E.o.rowOpen 0 rfl (by omega);refine xrl<|xr 2 rfl<|xy rfl (vx 31 i 5 rfl)<|xy rfl (fun a J=>ylr (cs := pL (l3.getD i PtrD.zero)) rfl (J.ev rfl) (E.o.elem PtrD.cells_len 0 rfl (Zg (xs := l3) (j := i) (d := PtrD.zero) (by omega)))) ?_;refine yal z5 E ?_;clear E;intro w8 b5 E;refine yst E 0 ?_;clear E;intro w9 E;replace E:=E.nm;refine xne<|xsq<|xsr<|Xw 0 5 E rfl rfl ?_;refine ycB (ZA (l3.getD i PtrD.zero) _) func52 E ?_;clear E;intro w10 E;refine xne<|xcs 48 rfl (fun cc5=>?_) fun cc5=>?_;refine xct rfl<|xex<|xtx<|xbh<|xet<|xrl<|xr 1 rfl<|xy rfl (vad rfl)<|xr 1 rfl<|xne ?_;have hst := X5 hlv (show i < l3.length by omega);rw [ZiH cc5, Bool.true_and] at hst;replace E:=E.pks [3,3,3];intro a J;exact ⟨i + 1, ⟨⟨by omega, hst⟩, J.less _ ⟨rfl, rfl, rfl, rfl, rfl, rfl, rfl, rfl, trivial⟩, (E.o.erase 3)⟩, (by omega)⟩;refine xcf rfl<|xsk<|xet<|xsr<|Xw 3 8 E rfl rfl<|Xw 0 5 E rfl rfl ?_;refine ycB (JY a0 c0 a1 c1 a2 c2 a4 c4 a6 c6 st (l3.getD i PtrD.zero) _  (HR.out.below E.o.bel) hrow (hoks _ (Yo (by omega)))) func44 E ?_;clear E;intro w11 E;refine xr 5 rfl<|xne<|xsr<|xr 3 rfl<|xcs 57 rfl (fun cc6=>?_) fun cc6=>?_;refine xr 17 rfl<|xne<|xct rfl<|xsr<|xr 1 rfl<|xne<|xre<|xbr<|xtr<|xtr<|xbr<|xtr<|xb1 results150 rfl ?_;have hst := X5 hlv (show i < l3.length by omega); rw [VV cc5] at hst;have hb1 : XM st (l3.getD i PtrD.zero) = false := (by simpa using cc6); rw [hb1] at hst; simp only [Bool.false_and] at hst;exact ⟨by rw [ZaU htop hk3, hst], E.o.bel⟩;refine Xf 4 rfl<|Xl 0 E rfl rfl<|xr 3 rfl<|xcn 62 rfl (fun cc7 dcc7=>?_) fun cc7 dcc7=>?_;refine xr 12 rfl<|xne<|xct rfl<|xsr<|xr 1 rfl<|xne<|xre<|xbr<|xtr<|xtr<|xbr<|xtr<|xb1 results150 rfl ?_;have hst := X5 hlv (show i < l3.length by omega); rw [VV cc5] at hst;have hb1 : ((l3.getD i PtrD.zero).ar == 0) = false := (by simpa using dcc7); rw [hb1] at hst; simp only [Bool.false_and, Bool.and_false] at hst;exact ⟨by rw [ZaU htop hk3, hst], E.o.bel⟩;refine Xf 1 rfl<|Xl 0 E rfl rfl<|Xf 3 rfl<|Xl 3 E rfl rfl<|xr 3 rfl<|xcd 69 rfl (fun _ dcc8=>?_) fun _ dcc8=>?_;refine xr 5 rfl<|xne<|xct rfl<|xsr<|xr 1 rfl<|xne<|xre<|xbr<|xtr<|xtr<|xbr<|xtr<|xb1 results150 rfl ?_;have hst := X5 hlv (show i < l3.length by omega); rw [VV cc5] at hst;rw [decide_eq_false (show ¬ (l3.getD i PtrD.zero).al ≤ st.ak by omega)] at hst; simp only [Bool.false_and, Bool.and_false] at hst;exact ⟨by rw [ZaU htop hk3, hst], E.o.bel⟩;refine xr 1 rfl<|Xf 6 rfl<|Xl 2 E rfl rfl<|xr 2 rfl<|xne<|xcd 74 rfl (fun _ dcc9=>?_) fun _ dcc9=>?_;refine xct rfl<|xsr<|xr 1 rfl<|xne<|xre<|xbr<|xtr<|xtr<|xbr<|xtr<|xb1 results150 rfl ?_;have hst := X5 hlv (show i < l3.length by omega); rw [VV cc5] at hst;rw [decide_eq_false (show ¬ (i : Int) < t.am by omega)] at hst; simp only [Bool.false_and, Bool.and_false] at hst;exact ⟨by rw [ZaU htop hk3, hst], E.o.bel⟩;refine xcf rfl<|xsk<|xeb<|xet<|xrl<|xr 1 rfl<|xy rfl (vad rfl)<|xr 1 rfl<|xne ?_;have hst := X5 hlv (show i < l3.length by omega);have hrb : XM st (l3.getD i PtrD.zero) = true := (by simpa using cc6); have hlv0 : ((l3.getD i PtrD.zero).ar == 0) = true := (by simpa using cc7);rw [VV cc5, hrb, hlv0, decide_eq_true (show (l3.getD i PtrD.zero).al ≤ st.ak by omega), decide_eq_true (show (i : Int) < t.am by omega)] at hst; simp only [Bool.and_self, Bool.true_and] at hst;replace E:=E.pks [3,3,3];intro a J;exact ⟨i + 1, ⟨⟨by omega, hst⟩, J.less _ ⟨rfl, rfl, rfl, rfl, rfl, rfl, rfl, rfl, trivial⟩, (E.o.erase 3)⟩, (by omega)⟩;refine xcf rfl<|xex<|xtx<|xtx<|xbh<|xet<|xsr<|xr 1 rfl<|xne<|xre<|xb1 results150 rfl ?_;exact ⟨by rw [ZaU htop hk3, ZhB hlv (by omega)], E.o.bel⟩;refine ⟨_, rfl, ?_⟩; replace E := Bx.mk (E.o.later hb);clear hb;refine xr 5 rfl<|xne<|xsq<|xsr<|xr 2 rfl<|xne<|xct rfl<|xsr<|xr 1 rfl<|xne<|xre<|xtr<|xb1 results150 rfl ?_;exact ⟨by rw [Zd6 hk3], E.o.bel⟩
theorem Zoa {s : ByteArray} {n k : Nat} (h : l1S s n k) : k ≤ 9 := by
 rcases h with ⟨h, _⟩ | ⟨_, rfl, _⟩
 ·exact h
 ·decide
theorem Zob {b : UInt8} (h : ((b.toNat : Nat) : Int) = 58) : b = 58 := UInt8.toNat_inj.1 (by show b.toNat = 58; omega)
theorem ZhD {s : ByteArray} {xs : List ByteArray} {r : ByteArray} (h : UG s xs r) (hs : s.size ≤ 1000000) : szs xs := fun k => by
 by_cases hk : k < xs.length
 ·have h1 := X0 xs hk
  have h2 := congrArg List.length h.is;rw [length_append, ← Zi, ← Zi] at h2
  omega
 ·rw [getD_eq_getElem?_getD, List.getElem?_eq_none (by omega)]; decide
theorem VW {l : List ByteArray} (h : (Yv l).2 = true) : l.length ≤ 60 ∧ (Yv l).1 = Ye l ∧ (Ye l).size ≤ 2048 := by
 unfold Yv at h ⊢
 split at h
 ·next e => rw [if_pos e]; exact ⟨e.1, rfl, e.2⟩
 ·cases h
theorem ZbL (s : ByteArray) (w0 : World) (hs : s.size ≤ 1000000) : Calls prog 168 #[.string s] w0 fun e w' => (∃ xs, IsRec s xs ∧ s.size ≤ 2048 ∧ ∃ ao cp, e = .returned (.tuple #[.slice ao xs.length cp, .bool true]) ∧ St w0 [Zf Zx 1 9 (.slice ao xs.length cp) xs] w') ∨ ((∀ l, IsRec s l → s.size ≤ 2048 → False) ∧ ∃ ao, e = .returned (.tuple #[.slice ao 0 0, .bool false]) ∧ Below w0.heap.size w0 w') := by
 have E := Bx.mk (St.start w0);refine ent func168 ntmps168 ?_;refine xsr<|xr 2 rfl<|xne<|xsr ?_;refine yem 9 1 E ?_;clear E;intro w1 b1 E;refine xr 1 rfl<|xne<|xsr<|xr 1 rfl<|xne<|xsq<|xbl ?_;replace E := Bx.mk (E.o.nilRow Zx 1 9 (some ⟨b1, 0, none⟩));intro a J;refine Zt (ι := Nat) (fun p a w => ∃ (ao : Option Addr) (cp : Nat) (xs : List ByteArray), (p ≤ s.size ∧ xs.length ≤ p ∧ UG s xs (s.extract p s.size) ∧ (p ≠ 0 → s.size ≤ 2048)) ∧ Fr 92 a [(0, .string s), (2, .slice none 0 0), (3, .bool false), (4, .slice ao xs.length cp), (5, .int .i64 (p : Int))] ∧ St w0 ([Zf Zx 1 9 (.slice ao xs.length cp) xs]) w) (fun p => s.size - p) 0 ⟨_, _, [], ⟨Nat.zero_le _, Nat.zero_le _, by rw [show s.extract 0 s.size = s from ByteArray.extract_zero_size]; exact UG.zero s, fun h => absurd rfl h⟩, J.ls _, E.o⟩ ?_;clear J E; clear a;rintro p a w2 ⟨ao, cp, xs, ⟨hp, hxp, hto, hps⟩, J, E⟩;replace E := Bx.mk E;revert a;refine xsq<|xsr<|xr 2 rfl<|xy rfl (fun a J=>ZO rfl (J.ev rfl) (by kernel_rfl))<|xr 2 rfl<|xcd 15 rfl (fun _ dcc1=>?_) fun _ dcc1=>?_
 refine xr 1 rfl<|xy rfl (fun a J=>ZO rfl (J.ev rfl) (by kernel_rfl))<|xr 2 rfl<|xne<|xcd 19 rfl (fun _ dcc2=>?_) fun _ dcc2=>?_;refine xct rfl<|xsk<|xet<|xbl<|xsr<|xr 2 rfl<|xy rfl (fun a J=>Va (k := p) rfl (J.ev rfl) (J.ev rfl) (by kernel_rfl) (by omega) (by omega)) ?_;refine yc (Zfv (s.extract p s.size) _ (by rw [size_extract]; omega)) func174 ?_;rintro _ w3 ⟨n, k, hl1, hn9, rfl, hb⟩;refine ⟨_, rfl, ?_⟩; replace E := Bx.mk (E.o.later hb);clear hb;have hk9 := Zoa hl1;refine xr 5 rfl<|xne<|xsq<|xsr<|xr 3 rfl<|xce 29 rfl (fun _ dcc3=>?_) fun _ dcc3=>?_;refine xr 26 rfl<|xne<|xct rfl<|xsr ?_;refine yem 9 1 E ?_;clear E;intro w4 b2 E;refine xr 2 rfl<|xne<|xre<|xtr<|xbr<|xtr<|xbr<|xtr<|xb2 results168 rfl rfl ?_;refine .inr ⟨fun l h h2 => ?_, _, rfl, E.o.bel⟩;obtain ⟨q0, q1, q2, q3⟩ := Zgw hto hl1 h h2 (by omega)
 omega
 refine xr 2 rfl<|xy rfl (vad rfl)<|xr 1 rfl<|xy rfl (fun a J=>ZO rfl (J.ev rfl) (by kernel_rfl))<|xr 3 rfl<|xcd 37 rfl (fun _ dcc4=>?_) fun _ dcc4=>?_;refine xr 18 rfl<|xne<|xct rfl<|xsr ?_;refine yem 9 1 E ?_;clear E;intro w5 b3 E;refine xr 2 rfl<|xne<|xre<|xtr<|xbr<|xtr<|xbr<|xtr<|xb2 results168 rfl rfl ?_;refine .inr ⟨fun l h h2 => ?_, _, rfl, E.o.bel⟩;obtain ⟨q0, q1, q2, q3⟩ := Zgw hto hl1 h h2 (by omega)
 omega
 refine xr 3 rfl<|xy rfl (vad rfl)<|xy rfl (fun a J=>Yu (i := p + k) rfl (J.ev rfl) (J.ev rfl) (by kernel_rfl) (by omega) (by omega))<|xr 3 rfl<|xcn 45 rfl (fun _ dcc5=>?_) fun _ dcc5=>?_;refine xr 10 rfl<|xne<|xct rfl<|xsr ?_;refine yem 9 1 E ?_;clear E;intro w6 b4 E;refine xr 2 rfl<|xne<|xre<|xtr<|xbr<|xtr<|xbr<|xtr<|xb2 results168 rfl rfl ?_;refine .inr ⟨fun l h h2 => ?_, _, rfl, E.o.bel⟩;obtain ⟨q0, q1, q2, q3⟩ := Zgw hto hl1 h h2 (by omega);have hq := congrArg UInt8.toNat q2; have h58 : (58 : UInt8).toNat = 58 := rfl; omega;refine xr 2 rfl<|xy rfl (fun a J=>ZO rfl (J.ev rfl) (by kernel_rfl))<|xr 1 rfl<|xy rfl (fun a J=>ZH rfl (J.ev rfl) (J.ev rfl) (Z5 (by omega)))<|xr 1 rfl<|xy rfl (fun a J=>ZH rfl (J.ev rfl) (J.ev rfl) (Z5 (by omega)))<|xy rfl (fun a J=>ZH rfl (J.ev rfl) (J.ev rfl) (Z5 (by omega)))<|xr 2 rfl<|xne<|xcd 55 rfl (fun _ dcc6=>?_) fun _ dcc6=>?_;refine xct rfl<|xsr ?_;refine yem 9 1 E ?_;clear E;intro w7 b5 E;refine xr 2 rfl<|xne<|xre<|xtr<|xbr<|xtr<|xbr<|xtr<|xb2 results168 rfl rfl ?_;refine .inr ⟨fun l h h2 => ?_, _, rfl, E.o.bel⟩;obtain ⟨q0, q1, q2, q3⟩ := Zgw hto hl1 h h2 (by omega)
 omega
 refine xcf rfl<|xsk<|xet<|xsr<|xr 4 rfl<|xy rfl (vad rfl)<|xy rfl (vad rfl)<|xr 2 rfl<|xy rfl (vad rfl)<|xy rfl (vad rfl)<|xr 1 rfl<|xy rfl (vad rfl)<|xy rfl (fun a J=>ZaO (i := (p + k) + 1) (j := ((p + k) + 1) + n) rfl (J.ev rfl) (J.ev rfl) (J.ev rfl) (by kernel_rfl) (by omega) (by omega) (by omega) (by omega)) ?_;refine ybs Zx 9 1 [s.extract ((p + k) + 1) (((p + k) + 1) + n)] E ?_;clear E;intro b6 w8 E;refine yap Zbz Zo E 1 (St.rdN E.o Zo 0 rfl) (Y0 _) ?_;clear E;intro ao7 cp8 w9 E;refine xr 1 rfl<|xne<|xrl<|xr 2 rfl<|xy rfl (vad rfl)<|xy rfl (vad rfl)<|xr 1 rfl<|xy rfl (vad rfl)<|xr 1 rfl<|xni<|xeb<|xet ?_;have hz : xs.length + ([s.extract ((p + k) + 1) (((p + k) + 1) + n)]).length = (xs ++ ([s.extract ((p + k) + 1) (((p + k) + 1) + n)])).length := (length_append ..).symm;intro a J;rw [hz] at E J;have hto2 := ZlQ hto hl1 (by omega) (by omega) (Zob (by omega)) (by omega);replace E:=E.pks [1];exact ⟨p + k + 1 + n, ⟨_, _, xs ++ [s.extract ((p + k) + 1) (((p + k) + 1) + n)], ⟨by omega, by rw [length_append, length_cons, length_nil]; omega, hto2, fun _ => by omega⟩, J.less _ ⟨rfl, rfl, rfl, rfl, rfl, trivial⟩, (E.o.erase 1)⟩, (by omega)⟩;refine xcf rfl<|xex<|xtx<|xtx<|xbh<|xet<|xsr<|xr 1 rfl ?_;refine ycB (JR _ _ _ xs _ (by omega) (ZhD hto (by omega)) (St.rdOf E.o Zo 0 rfl)) func148 E ?_;clear E;intro w10 E;refine xr 5 rfl<|xne<|xsq<|xsr<|xr 3 rfl<|xcs 85 rfl (fun cc7=>?_) fun cc7=>?_;refine xr 4 rfl<|xne<|xct rfl<|xsr ?_;refine yem 9 1 E ?_;clear E;intro w11 b9 E;refine xr 2 rfl<|xne<|xre<|xtr<|xb2 results168 rfl rfl ?_;refine .inr ⟨fun l h h2 => ?_, _, rfl, E.o.bel⟩;have hx : Ye xs = s := ZbF hto (by omega);have e : xs = l := VL (hx.trans h.is.symm); subst e;have hy := Y4 h.many (by rw [hx]; exact h2); rw [hx] at hy; simp [hy] at cc7;refine xr 2 rfl<|xy rfl (fun a J=>Qk rfl (J.ev rfl) (J.ev rfl))<|xr 1 rfl<|xne<|xcs 89 rfl (fun cc8=>?_) fun cc8=>?_;refine xct rfl<|xsr ?_;refine yem 9 1 E ?_;clear E;intro w12 b10 E;refine xr 2 rfl<|xne<|xre<|xtr<|xb2 results168 rfl rfl ?_;refine .inr ⟨fun l h h2 => ?_, _, rfl, E.o.bel⟩;have hx : Ye xs = s := ZbF hto (by omega);have e : xs = l := VL (hx.trans h.is.symm); subst e;have hy := Y4 h.many (by rw [hx]; exact h2); rw [hx] at hy; simp [hy] at cc8;refine xcf rfl<|xsk<|xet<|xsr<|xr 3 rfl<|xne<|xre<|xb2 results168 rfl rfl ?_;have hf2 : (Yv xs).2 = true := (by simpa using cc7); have hf1 : (Yv xs).1 = s := ZV (by simpa using cc8);obtain ⟨q1, q2⟩ := VW hf2; rw [q2.1] at hf1; have hq2 := q2.2; rw [hf1] at hq2;exact .inl ⟨xs, ⟨hf1, q1⟩, hq2, _, _, rfl, E.o⟩;refine xr 4 rfl<|xne<|xcf rfl<|xex<|xtx<|xtx<|xbh<|xet<|xsr<|xr 1 rfl ?_;refine ycB (JR _ _ _ xs _ (by omega) (ZhD hto (by omega)) (St.rdOf E.o Zo 0 rfl)) func148 E ?_;clear E;intro w13 E;refine xr 5 rfl<|xne<|xsq<|xsr<|xr 3 rfl<|xcs 85 rfl (fun cc9=>?_) fun cc9=>?_;refine xr 4 rfl<|xne<|xct rfl<|xsr ?_;refine yem 9 1 E ?_;clear E;intro w14 b11 E;refine xr 2 rfl<|xne<|xre<|xtr<|xb2 results168 rfl rfl ?_;refine .inr ⟨fun l h h2 => ?_, _, rfl, E.o.bel⟩;have hx : Ye xs = s := ZbF hto (by omega);have e : xs = l := VL (hx.trans h.is.symm); subst e;have hy := Y4 h.many (by rw [hx]; exact h2); rw [hx] at hy; simp [hy] at cc9;refine xr 2 rfl<|xy rfl (fun a J=>Qk rfl (J.ev rfl) (J.ev rfl))<|xr 1 rfl<|xne<|xcs 89 rfl (fun cc10=>?_) fun cc10=>?_;refine xct rfl<|xsr ?_;refine yem 9 1 E ?_;clear E;intro w15 b12 E;refine xr 2 rfl<|xne<|xre<|xtr<|xb2 results168 rfl rfl ?_;refine .inr ⟨fun l h h2 => ?_, _, rfl, E.o.bel⟩;have hx : Ye xs = s := ZbF hto (by omega);have e : xs = l := VL (hx.trans h.is.symm); subst e;have hy := Y4 h.many (by rw [hx]; exact h2); rw [hx] at hy; simp [hy] at cc10;refine xcf rfl<|xsk<|xet<|xsr<|xr 3 rfl<|xne<|xre<|xb2 results168 rfl rfl ?_;have hf2 : (Yv xs).2 = true := (by simpa using cc9); have hf1 : (Yv xs).1 = s := ZV (by simpa using cc10);obtain ⟨q1, q2⟩ := VW hf2; rw [q2.1] at hf1; have hq2 := q2.2; rw [hf1] at hq2;exact .inl ⟨xs, ⟨hf1, q1⟩, hq2, _, _, rfl, E.o⟩
theorem ZhE (kind : Int) (w0 : World) : Calls prog 173 #[.int .i64 kind] w0 fun e w' => e = .returned (.int .i64 (Yn kind)) ∧ Below w0.heap.size w0 w' := by
 have E := Bx.mk (St.start w0);refine ent func173 ntmps173 ?_;refine xsr<|xr 1 rfl<|xne<|xsq<|xsr<|xr 1 rfl<|xne<|xbl<|xsr<|xr 2 rfl<|xne<|xce 4 rfl (fun _ dcc1=>?_) fun _ dcc1=>?_;refine xct rfl<|xsr<|xr 1 rfl<|xne<|xre<|xbr<|xtr<|xb1 results173 rfl ?_;have he : Yn kind = 12 := by rw [dcc1]; rfl
 exact ⟨by rw [he], E.o.bel⟩;refine xcf rfl<|xsr<|xr 2 rfl<|xne<|xce 6 rfl (fun _ dcc2=>?_) fun _ dcc2=>?_;refine xct rfl<|xsr<|xr 1 rfl<|xne<|xre<|xbr<|xtr<|xb1 results173 rfl ?_;have he : Yn kind = 128 := by rw [dcc2]; rfl
 exact ⟨by rw [he], E.o.bel⟩;refine xcf rfl<|xsk<|xeb<|xet<|xsr<|xr 1 rfl<|xne<|xre<|xb1 results173 rfl ?_;have he : Yn kind = 0 := Zd7 dcc1 dcc2;exact ⟨by rw [he], E.o.bel⟩
theorem ZaA (size each : Int) (h0 : 0 ≤ size) (h1 : 1 ≤ each) (hs : size ≤ 1000000) (he : each ≤ 1000000) (w0 : World) : Calls prog 144 #[.int .i64 size, .int .i64 each] w0 fun e w' => e = .returned (.int .i64 ((size + each - (1 : Int)) / each)) ∧ Below w0.heap.size w0 w' := by
 have E := Bx.mk (St.start w0);refine ent func144 ntmps144 ?_;refine xsr<|xr 1 rfl<|xne<|xsr<|xr 2 rfl<|xy rfl (vad rfl)<|xy rfl (fun a J=>ZH rfl (J.ev rfl) (J.ev rfl) (Z5 (by omega)))<|xr 1 rfl<|xy rfl (fun a J=>Ue rfl (J.ev rfl) (J.ev rfl) (by omega) (Ug (by omega) (by omega) (by omega)))<|xr 1 rfl<|xne<|xre<|xb1 results144 rfl ?_;exact ⟨rfl, E.o.bel⟩
theorem J0 (k : Int) : 0 ≤ Yn k ∧ Yn k ≤ 128 := by
 unfold Yn
 split
 ·omega
 ·split <;> omega
theorem ZaY (kind size : Int) (w0 : World) : Calls prog 165 #[.int .i64 kind, .int .i64 size] w0 fun e w' => e = .returned (.int .i64 (Yy kind size)) ∧ Below w0.heap.size w0 w' := by
 have E := Bx.mk (St.start w0);refine ent func165 ntmps165 ?_;refine xsr<|xr 1 rfl<|xne<|xsr<|xr 1 rfl ?_;refine ycB (ZhE kind _) func173 E ?_;clear E;intro w1 E;refine xr 1 rfl<|xne<|xsq<|xsq ?_;have hel := J0 kind;refine xrl<|xr 3 rfl<|xce 10 rfl (fun _ dcc1=>?_) fun _ dcc1=>?_;refine xr 6 rfl<|xne<|xct rfl<|xsr<|xr 1 rfl<|xne<|xre<|xtr<|xb1 results165 rfl ?_;have hp : Yy kind size = -1 := Zd8 (by omega);exact ⟨by rw [hp], E.o.bel⟩;refine xr 2 rfl<|xy rfl (fun a J=>Xb rfl (J.ev rfl) (J.ev rfl) (Z5 (by omega))) ?_;refine Jg ((Z0 size 0 ((16 : Int) * (Yn kind)) _).mono fun _ _ h => ⟨h.1, h.2 ▸ Below.refl _ _⟩) func51 E ?_;clear E;intro w2 E;refine xr 2 rfl<|xne<|xcs 16 rfl (fun cc2=>?_) fun cc2=>?_;have hin : inB size 0 ((16 : Int) * (Yn kind)) = false := by simpa using cc2
 refine xct rfl<|xsr<|xr 1 rfl<|xne<|xre<|xtr<|xb1 results165 rfl ?_;have hp : Yy kind size = -1 := Zc9 (fun h => by rw [Zgp h.1 (by omega)] at hin; cases hin);exact ⟨by rw [hp], E.o.bel⟩;have hin : inB size 0 ((16 : Int) * (Yn kind)) = true := by simpa using cc2
 have hib := Zw hin;refine xcf rfl<|xsk<|xet<|xsr<|xr 2 rfl ?_;refine ycB (ZaA size (Yn kind) (by omega) (by omega) (by omega) (by omega) _) func144 E ?_;clear E;intro w3 E;refine xr 1 rfl<|xne<|xre<|xb1 results165 rfl ?_;have hp : Yy kind size = ((size + (Yn kind) - (1 : Int)) / (Yn kind)) := ZaW (k := kind) (by omega) (by omega) (by omega);exact ⟨by rw [hp], E.o.bel⟩
theorem J1 (n : Zc) (w0 : World) : Calls prog 147 #[nV n] w0 fun e w' => e = .returned (.bool n.ok) ∧ Below w0.heap.size w0 w' := by
 have E := Bx.mk (St.start w0);refine ent func147 ntmps147 ?_;refine xsr ?_;refine ybx E ?_;clear E;intro w1 b1 E;refine xr 1 rfl<|xne<|xsr<|Xf 0 rfl<|Xl 0 E rfl rfl<|Xf 2 rfl<|Xl 0 E rfl rfl ?_;refine ycB (ZaY n.aq n.av _) func165 E ?_;clear E;intro w2 E;refine xr 1 rfl<|xne<|xsq<|xsq ?_;intro a J;refine Z1 (by kernel_rfl) (by kernel_rfl) E.o ?_;revert a;refine xqr 3 rfl<|xcd 12 rfl (fun _ dcc1=>?_) fun _ dcc1=>?_
 refine xqr 21 rfl ?_;intro a J;refine wpQuiet_nil ?_; intro w3 E; replace E := Bx.mk E;revert a;refine xet<|xct rfl<|xsr<|xr 1 rfl<|xne<|xre<|xtr<|xb1 results147 rfl ?_;have hok : n.ok = false := Zc.ok_no fun h => by
   have := h.many; omega
 exact ⟨by rw [hok], E.o.bel⟩;refine Qf 3 rfl<|Qf 6 rfl<|Ql 0 rfl rfl<|xqr 4 rfl<|xcn 19 rfl (fun _ dcc2=>?_) fun _ dcc2=>?_;refine xqr 14 rfl ?_;intro a J;refine wpQuiet_nil ?_; intro w4 E; replace E := Bx.mk E;revert a;refine xet<|xct rfl<|xsr<|xr 1 rfl<|xne<|xre<|xtr<|xb1 results147 rfl ?_;have hok : n.ok = false := Zc.ok_no fun h => by
   exact dcc2 h.tmany
 exact ⟨by rw [hok], E.o.bel⟩;refine Qf 3 rfl<|Qf 5 rfl<|Ql 0 rfl rfl<|xqr 1 rfl ?_;refine yqg (fun _ E => VU (Yy n.aq n.av) _) func161 ?_;refine xqr 3 rfl<|xcn 27 rfl (fun _ dcc3=>?_) fun _ dcc3=>?_;refine xqr 6 rfl ?_;intro a J;refine wpQuiet_nil ?_; intro w5 E; replace E := Bx.mk E;revert a;refine xet<|xct rfl<|xsr<|xr 1 rfl<|xne<|xre<|xtr<|xb1 results147 rfl ?_;have hok : n.ok = false := Zc.ok_no fun h => by
   exact dcc3 h.depth
 exact ⟨by rw [hok], E.o.bel⟩;refine Qf 3 rfl<|Qf 0 rfl<|Qw 0 5 rfl rfl ?_;refine yqg (fun _ E => ZQ n.au.ai _) func43 ?_;refine xqr 2 rfl ?_;intro a J;refine wpQuiet_nil ?_; intro w6 E; replace E := Bx.mk E;revert a;refine xet<|xcs 33 rfl (fun cc4=>?_) fun cc4=>?_
 refine xct rfl<|xsr<|xr 1 rfl<|xne<|xre<|xtr<|xb1 results147 rfl ?_;have hok : n.ok = false := Zc.ok_no fun h => by
   rw [h.root] at cc4; simp at cc4
 exact ⟨by rw [hok], E.o.bel⟩;refine xcf rfl<|xsk<|xet<|xsr<|xr 1 rfl<|xne<|xsq<|xsr<|Xf 0 rfl<|Xl 0 E rfl rfl<|xr 1 rfl<|xne<|xce 36 rfl (fun _ dcc5=>?_) fun _ dcc5=>?_;refine xct rfl<|xrl<|xr 1 rfl<|xne<|xsr<|Xf 1 rfl<|Xl 0 E rfl rfl<|xr 1 rfl ?_;refine ycB ((Z0 n.aB 1 1 _).mono fun _ _ h => ⟨h.1, h.2 ▸ Below.refl _ _⟩) func51 E ?_;clear E;intro w7 E;refine xr 1 rfl<|xcs 41 rfl (fun cc6=>?_) fun cc6=>?_;refine Xf 3 rfl<|Xf 0 rfl<|Xw 0 5 E rfl rfl ?_;refine Jg (ZA n.au.ai _) func52 E ?_;clear E;intro w8 E;refine xr 1 rfl<|xcs 46 rfl (fun cc7=>?_) fun cc7=>?_;refine xr 11 rfl<|xne<|xre<|xb1 results147 rfl ?_;have hok : n.ok = true := Zc.ok_yes ⟨by omega, by have h := Zw (by simpa using cc6); rw [if_pos dcc5]; exact h, by simpa using dcc2, by simpa using dcc3, by simpa using cc4, .inl (by simpa using cc7)⟩;exact ⟨by rw [hok], E.o.bel⟩;refine Xf 3 rfl<|Xf 0 rfl<|Xf 4 rfl<|Xl 0 E rfl rfl<|Xf 3 rfl<|Xf 5 rfl<|Xl 0 E rfl rfl<|xr 4 rfl<|xne<|xre<|xb1 results147 rfl ?_
 cases hlast : (n.au.ai.ar == n.au.az) with
 | true =>
   have hok : n.ok = true := Zc.ok_yes ⟨by omega, by have h := Zw (by simpa using cc6); rw [if_pos dcc5]; exact h, by simpa using dcc2, by simpa using dcc3, by simpa using cc4, .inr (eq_of_beq hlast)⟩;exact ⟨by rw [hok] <;> rfl, E.o.bel⟩
 | false =>
   have hok : n.ok = false := Zc.ok_no fun h => by
     rcases h.level with h | h
     · rw [h] at cc7; simp at cc7
     · rw [h] at hlast; simp at hlast
   exact ⟨by rw [hok] <;> rfl, E.o.bel⟩
 refine xr 16 rfl<|xne<|xre<|xb1 results147 rfl ?_;have hok : n.ok = false := Zc.ok_no fun h => by
   have h1 := h.links; rw [if_pos dcc5] at h1; rw [Zgp h1.1 h1.2] at cc6; simp at cc6
 exact ⟨by rw [hok], E.o.bel⟩;refine xcf rfl<|xsk<|xet<|xsr<|Xf 1 rfl<|Xl 0 E rfl rfl<|xr 1 rfl ?_;refine ycB ((Z0 n.aB 1 9 _).mono fun _ _ h => ⟨h.1, h.2 ▸ Below.refl _ _⟩) func51 E ?_;clear E;intro w9 E;refine xr 1 rfl<|xcs 41 rfl (fun cc8=>?_) fun cc8=>?_;refine Xf 3 rfl<|Xf 0 rfl<|Xw 0 5 E rfl rfl ?_;refine Jg (ZA n.au.ai _) func52 E ?_;clear E;intro w10 E;refine xr 1 rfl<|xcs 46 rfl (fun cc9=>?_) fun cc9=>?_;refine xr 11 rfl<|xne<|xre<|xb1 results147 rfl ?_;have hok : n.ok = true := Zc.ok_yes ⟨by omega, by have h := Zw (by simpa using cc8); rw [if_neg dcc5]; exact h, by simpa using dcc2, by simpa using dcc3, by simpa using cc4, .inl (by simpa using cc9)⟩;exact ⟨by rw [hok], E.o.bel⟩;refine Xf 3 rfl<|Xf 0 rfl<|Xf 4 rfl<|Xl 0 E rfl rfl<|Xf 3 rfl<|Xf 5 rfl<|Xl 0 E rfl rfl<|xr 4 rfl<|xne<|xre<|xb1 results147 rfl ?_
 cases hlast : (n.au.ai.ar == n.au.az) with
 | true =>
   have hok : n.ok = true := Zc.ok_yes ⟨by omega, by have h := Zw (by simpa using cc8); rw [if_neg dcc5]; exact h, by simpa using dcc2, by simpa using dcc3, by simpa using cc4, .inr (eq_of_beq hlast)⟩;exact ⟨by rw [hok] <;> rfl, E.o.bel⟩
 | false =>
   have hok : n.ok = false := Zc.ok_no fun h => by
     rcases h.level with h | h
     · rw [h] at cc9; simp at cc9
     · rw [h] at hlast; simp at hlast
   exact ⟨by rw [hok] <;> rfl, E.o.bel⟩
 refine xr 16 rfl<|xne<|xre<|xb1 results147 rfl ?_;have hok : n.ok = false := Zc.ok_no fun h => by
   have h1 := h.links; rw [if_neg dcc5] at h1; rw [Zgp h1.1 h1.2] at cc8; simp at cc8
 exact ⟨by rw [hok], E.o.bel⟩
theorem Box.putAt {w : World} {b n : Nat} {t : TypeId} {cs : List Value} (h : Box w b n t (.agg cs.toArray)) (k : Nat) (ds : List Value) (hk : k + ds.length ≤ cs.length) (g1 : ∀ u ∈ ds, u.oneCell' = true) :
  w.there b k ds.length ∧ Box (w.setCells b k ds) b n t (.agg (XE cs k ds).toArray) ∧ YV b (b + 1) w (w.setCells b k ds) := by
 obtain ⟨cs', e, hl, h1, hh⟩ := h;obtain rfl : cs = cs' := by simpa using e
 obtain ⟨k1, k2, k3⟩ := U0 ds k w cs hh hk;refine ⟨fun j hj => ⟨by rw [Zh hh]; simp; omega, ZaF hh _⟩, ⟨_, rfl, ?_, ?_, k1⟩, k2⟩
 ·unfold XE; simp; omega
 ·intro u hu
  unfold XE at hu;rcases mem_append.1 hu with hu | hu
  ·rcases mem_append.1 hu with hu | hu
   ·exact h1 u (List.mem_of_mem_take hu)
   ·exact g1 u hu
  ·exact h1 u (List.mem_of_mem_drop hu)
section
variable {P : Program} {ops : Array Oper} {Q : Exit → Act → World → Prop} {rest : List Oper} {o : Oper} {a : Act} {W w : World} {s : List Asr}
theorem Z7 (hg : o.guard = none) {t : TypeId} {x y : Operand} (ho : o.op = .store t x y) (hd : o.dst = none) {b n k : Nat} {T : TypeId} {cs ds rs : List Value} (hx : a.eval x = .pointer (some ⟨b, k, none⟩)) (hy : a.eval y = .agg ds.toArray) (hS : St W s w) (i : Nat) (hi : s[i]? = some (boxA b n T (.agg cs.toArray))) (hk : Nat.ble (k + ds.length) cs.length = true) (hv : (ds.all fun u => u.oneCell') = true) (hn : XR P t ds.length = true) (hr : XE cs k ds = rs)
  (h : ∀ w', St W (s.set i (boxA b n T (.agg rs.toArray))) w' → wpList P ops Q rest a w') : wpList P ops Q (o :: rest) a w := by
 obtain ⟨k1, k2, k3⟩ := (hS.box i hi).putAt k ds (Nat.le_of_ble_eq_true hk) (List.all_eq_true.1 hv);refine wpList_plain hg fun K hK => wp_store_mid t x y ho b k ds.toArray hx hy (by simpa using k1) (by rw [(Qo hn).2]; simp) (by simpa using hv) ?_;rw [hd];exact hK _ _ (h _ (by rw [← hr]; exact hS.putBox i hi k2 k3))
end
theorem Vx (n : Zc) (w0 : World) : Calls prog 128 #[nV n] w0 fun e w' => e = .returned (.string (Ym n)) ∧ Below w0.heap.size w0 w' := by
 have E := Bx.mk (St.start w0);refine ent func128 ntmps128 ?_;refine xsr ?_;refine ybx E ?_;clear E;intro w1 b1 E;refine xr 1 rfl<|xne<|xsq<|xsr<|Xw 0 10 E rfl rfl ?_;refine ycB (J1 n _) func147 E ?_;clear E;intro w2 E;refine xr 1 rfl<|xne<|xcs 7 rfl (fun cc1=>?_) fun cc1=>?_;refine xct rfl<|xsr<|xr 1 rfl<|xne<|xre<|xtr<|xb1 results128 rfl ?_;exact ⟨by rw [JW (by simpa using cc1)]; rfl, E.o.bel⟩;refine xcf rfl<|xsk<|xet<|xsq ?_;have hok : n.ok = true := by simpa using cc1
 have hsm := (Zc.ok_is hok).small; have k1 := hsm.links; have k2 := hsm.size; have k3 := hsm.many; have k4 := hsm.depth; have k5 := hsm.kind; have hel := J0 n.aq;have hz_fKind : (ZB n.aq.toNat).size ≤ 9 := Uy (by omega);have hz_fLinks : (ZB n.aB.toNat).size ≤ 9 := Uy (by omega);have hz_fSize : (ZB n.av.toNat).size ≤ 9 := Uy (by omega);have hz_fTree_fDepth : (ZB n.au.az.toNat).size ≤ 9 := Uy (by omega);have hz_fTree_fMany : (ZB n.au.am.toNat).size ≤ 9 := Uy (by omega);refine hld [] E ?_;clear E;intro w3 E M;refine Hf 0 0 E rfl<|Hl 1 0 E rfl rfl<|Hf 3 1 E rfl<|Hl 4 0 E rfl rfl<|Hf 6 2 E rfl<|Hl 7 0 E rfl rfl<|Hf 9 3 E rfl<|Hf 10 0 E rfl<|Hw 11 0 5 E rfl rfl<|Hf 13 3 E rfl<|Hf 14 5 E rfl<|Hl 15 0 E rfl rfl<|Hf 17 3 E rfl<|Hf 18 6 E rfl<|Hl 19 0 E rfl rfl ?_;refine Zq 2 ?_;refine yoB (YJ n.aq (by omega) (by omega) _) func74 ?_;intro w4 hb; replace E := Bx.mk (E.o.later hb); replace M := Bx.mk (M.o.later hb);clear hb; refine onb E.o ?_;refine Zq 5 ?_;refine yoB (YJ n.aB (by omega) (by omega) _) func74 ?_;intro w5 hb; replace E := Bx.mk (E.o.later hb); replace M := Bx.mk (M.o.later hb);clear hb; refine onb E.o ?_;refine Zq 8 ?_;refine yoB (YJ n.av (by omega) (by omega) _) func74 ?_;intro w6 hb; replace E := Bx.mk (E.o.later hb); replace M := Bx.mk (M.o.later hb);clear hb; refine onb E.o ?_;refine Zq 12 ?_;refine yoB (Ja n.au.ai _) func149 ?_;intro w7 hb; replace E := Bx.mk (E.o.later hb); replace M := Bx.mk (M.o.later hb);clear hb; refine onb E.o ?_;refine Zq 16 ?_;refine yoB (YJ n.au.az (by omega) (by omega) _) func74 ?_;intro w8 hb; replace E := Bx.mk (E.o.later hb); replace M := Bx.mk (M.o.later hb);clear hb; refine onb E.o ?_;refine Zq 20 ?_;refine yoB (YJ n.au.am (by omega) (by omega) _) func74 ?_;intro w9 hb; replace E := Bx.mk (E.o.later hb); replace M := Bx.mk (M.o.later hb);clear hb; refine onb E.o ?_;refine Zq 21 ?_;intro a J;refine Xe (enc := Zx) (e := 9) (size := 1) rfl rfl J rfl rfl rfl (ps := [(0, .string (ZB n.aq.toNat)), (1, .string (ZB n.aB.toNat)), (2, .string (ZB n.av.toNat)), (3, .string (YM n.au.ai)), (4, .string (ZB n.au.az.toNat)), (5, .string (ZB n.au.am.toNat)), (6, .string (⟨#[101, 110, 100]⟩ : ByteArray))]) rfl (cells := [.string (ZB n.aq.toNat), .string (ZB n.aB.toNat), .string (ZB n.av.toNat), .string (YM n.au.ai), .string (ZB n.au.az.toNat), .string (ZB n.au.am.toNat), .string (⟨#[101, 110, 100]⟩ : ByteArray)]) (by kernel_rfl) [ZB n.aq.toNat, ZB n.aB.toNat, ZB n.av.toNat, YM n.au.ai, ZB n.au.az.toNat, ZB n.au.am.toNat, (⟨#[101, 110, 100]⟩ : ByteArray)] rfl rfl (by unfold maxLen; omega) rfl M.o E.o ?_; clear J E M a; intro b2 a w11 J M E; replace E := Bx.mk E; replace M := Bx.mk M; refine ⟨E.o, ?_⟩;revert a;refine Zq 22 ?_;refine yoB (JR _ _ _ ([ZB n.aq.toNat, ZB n.aB.toNat, ZB n.av.toNat, YM n.au.ai, ZB n.au.az.toNat, ZB n.au.am.toNat, (⟨#[101, 110, 100]⟩ : ByteArray)]) _ (by (try simp only [length_append, length_cons, length_nil, nil_append, length_map]); omega) (JJ (by omega) (JJ (by omega) (JJ (by omega) (JJ (Nat.le_trans (Zdx _) (by decide)) (JJ (by omega) (JJ (by omega) (JJ (by decide) Znh))))))) (St.rdN M.o Zo 0 rfl)) func148 ?_;intro w12 hb; replace E := Bx.mk (E.o.later hb); replace M := Bx.mk (M.o.later hb);clear hb; refine onb E.o ?_;refine Hp 23 E rfl<|Hp 24 E rfl<|Hp 25 E rfl<|Hp 26 E rfl<|Hp 27 E rfl ?_;refine hdn ?_;replace E := M; clear M;refine xet<|xsr<|xr 2 rfl<|xne<|xre<|xb1 results128 rfl ?_;have hok : n.ok = true := by simpa using cc1
 have hsm := (Zc.ok_is hok).small; have k1 := hsm.links; have k2 := hsm.size; have k3 := hsm.many; have k4 := hsm.depth; have k5 := hsm.kind; have hel := J0 n.aq;have hL : Uk n = [ZB n.aq.toNat, ZB n.aB.toNat, ZB n.av.toNat, YM n.au.ai, ZB n.au.az.toNat, ZB n.au.am.toNat, ZlS] := by unfold Uk; rw [Xc (n := n.aq) (by omega) (by omega), Xc (n := n.aB) (by omega) (by omega), Xc (n := n.av) (by omega) (by omega), Xc (n := n.au.az) (by omega) (by omega), Xc (n := n.au.am) (by omega) (by omega)]
 exact ⟨by rw [Zfz hok, hL] <;> rfl, E.o.bel⟩
theorem ZoB {α : Type} {l : List α} (h : l.length = 7) : ∃ a b c d e f g, l = [a, b, c, d, e, f, g] := by
 match l, h with
 | [a, b, c, d, e, f, g], _ => exact ⟨a, b, c, d, e, f, g, rfl⟩
def Xk (y : ByteArray) : Int := match Q9 y with | some n => (n : Int) | none => 0
theorem X7 (y : ByteArray) (w0 : World) (hs : y.size ≤ 1000000) : Calls prog 166 #[.string y] w0 fun e w' => e = .returned (.tuple #[.int .i64 (Xk y), .bool (Q9 y).isSome]) ∧ Below w0.heap.size w0 w' := by
 refine (VK y w0 (by omega)).mono ?_;rintro e w' (⟨n, hg, rfl, hb⟩ | ⟨hg, rfl, hb⟩)
 ·exact ⟨by unfold Xk; rw [hg]; rfl, hb⟩
 ·exact ⟨by unfold Xk; rw [hg]; rfl, hb⟩
theorem XT {n : Int} (h : 0 ≤ n ∧ n ≤ 999999999) : Xk (Yx n) = n := by
 unfold Xk;rw [Yt h];show ((n.toNat : Nat) : Int) = n
 omega
open Classical in
noncomputable def Zkm (s : ByteArray) : Option PtrD := if h : ∃ p : PtrD, p.ok = true ∧ YM p = s then some h.choose else none
theorem Zed {s : ByteArray} {p : PtrD} (hp : p.ok = true) (h : YM p = s) : Zkm s = some p := by
 have he : ∃ p : PtrD, p.ok = true ∧ YM p = s := ⟨p, hp, h⟩;unfold Zkm;rw [dif_pos he];have hc := he.choose_spec;rw [ZdZ hc.1 hp (hc.2.trans h.symm)]
theorem Zny {s : ByteArray} (h : ∀ p : PtrD, p.ok = true → YM p = s → False) : Zkm s = none := by
 unfold Zkm;rw [dif_neg fun ⟨p, hp, hs⟩ => h p hp hs]
noncomputable def UA (y : ByteArray) : PtrD := (Zkm y).getD PtrD.zero
theorem Zgz (y : ByteArray) (w0 : World) (hs : y.size ≤ 1000000) : Calls prog 169 #[.string y] w0 fun e w' => e = .returned (.tuple #[.agg #[.int .i64 ((UA y).aA), .int .i64 ((UA y).al), .int .i64 ((UA y).av), .int .i64 ((UA y).aC), .int .i64 ((UA y).ar)], .bool (Zkm y).isSome]) ∧ Below w0.heap.size w0 w' := by
 refine (VT y w0 hs).mono ?_;rintro e w' (⟨p, hp, ht, rfl, hb⟩ | ⟨hn, rfl, hb⟩)
 ·exact ⟨by unfold UA; rw [Zed hp ht]; rfl, hb⟩
 ·exact ⟨by unfold UA; rw [Zny hn]; rfl, hb⟩
theorem Vy (s : ByteArray) (w0 : World) (hs : s.size ≤ 1000000) : Calls prog 154 #[.string s] w0 fun e w' => (∃ n : Zc, n.ok = true ∧ Ym n = s ∧ e = .returned (.tuple #[nV n, .bool true]) ∧ Below w0.heap.size w0 w') ∨ ((∀ n : Zc, n.ok = true → Ym n = s → False) ∧ e = .returned (.tuple #[Znf, .bool false]) ∧ Below w0.heap.size w0 w') := by
 have E := Bx.mk (St.start w0);refine ent func154 ntmps154 ?_;refine xsr ?_;refine yal z10 E ?_;clear E;intro w1 b1 E;refine xr 1 rfl<|xne<|xsr<|xr 1 rfl ?_;refine yc (ZbL s _ (by omega)) func168 ?_;rintro _ w2 (⟨xs, hrec, hsz, ao, cp, rfl, hs1⟩ | ⟨hno, ae, rfl, hb⟩);refine ⟨_, rfl, ?_⟩; replace E := E.ad hs1;clear hs1;refine xr 5 rfl<|xne<|xsq<|xsr<|xr 4 rfl<|xy rfl (vn 9 1 rfl)<|xr 2 rfl<|xne<|xcn 18 rfl (fun _ dcc1=>?_) fun _ dcc1=>?_;refine xct rfl<|xsr<|xy rfl (vb z10 rfl) ?_;refine yst E 1 ?_;clear E;intro w3 E;replace E:=E.nm;refine xr 1 rfl<|xne<|xre<|xtr ?_;intro a J;refine ZR J results154 (J.resBox rfl (E.o.box 1 rfl) (by kernel_rfl)) (J.res rfl) ?_;refine .inr ⟨fun x hx hxs => ?_, rfl, E.o.bel⟩;have hl6 := Qe hx; rw [hxs] at hl6; have hx2 := Vd x; rw [hxs] at hx2; have hsm := (Zal hx).1; have k1 := hsm.links; have k2 := hsm.size; have k3 := hsm.many; have k4 := hsm.depth; have k5 := hsm.kind; have hel := J0 x.aq;have hone := hrec.one hl6;rw [hone] at dcc1; exact dcc1 rfl;refine xcf rfl<|xsk<|xet<|xsq ?_;obtain ⟨y0, y1, y2, y3, y4, y5, y6, rfl⟩ := ZoB (l := xs) (by omega);intro a J;replace J : Fr 83 a [(0, .string s), (2, .pointer (some ⟨b1, 0, none⟩)), (3, .bool false), (8, .string s), (10, .slice ao 7 cp), (11, .bool true), (4, .slice ao 7 cp), (5, .bool true), (12, .bool true), (13, .bool false), (14, .bool false), (15, .slice ao 7 cp), (18, .bool false)] := J.ls _;obtain ⟨g2, rfl, _, _, _, _⟩ := E.o.rowOpen 0 rfl (Nat.succ_pos _);have hcap := E.o.capLe 0 rfl;have hy0 : y0.size ≤ 2048 := by have := X0 [y0, y1, y2, y3, y4, y5, y6] (k := 0) (by simp only [length_cons, length_nil]; omega); rw [hrec.is] at this; have e : ([y0, y1, y2, y3, y4, y5, y6] : List ByteArray).getD 0 ByteArray.empty = y0 := rfl; rw [e] at this; omega
 have hy1 : y1.size ≤ 2048 := by have := X0 [y0, y1, y2, y3, y4, y5, y6] (k := 1) (by simp only [length_cons, length_nil]; omega); rw [hrec.is] at this; have e : ([y0, y1, y2, y3, y4, y5, y6] : List ByteArray).getD 1 ByteArray.empty = y1 := rfl; rw [e] at this; omega
 have hy2 : y2.size ≤ 2048 := by have := X0 [y0, y1, y2, y3, y4, y5, y6] (k := 2) (by simp only [length_cons, length_nil]; omega); rw [hrec.is] at this; have e : ([y0, y1, y2, y3, y4, y5, y6] : List ByteArray).getD 2 ByteArray.empty = y2 := rfl; rw [e] at this; omega
 have hy3 : y3.size ≤ 2048 := by have := X0 [y0, y1, y2, y3, y4, y5, y6] (k := 3) (by simp only [length_cons, length_nil]; omega); rw [hrec.is] at this; have e : ([y0, y1, y2, y3, y4, y5, y6] : List ByteArray).getD 3 ByteArray.empty = y3 := rfl; rw [e] at this; omega
 have hy4 : y4.size ≤ 2048 := by have := X0 [y0, y1, y2, y3, y4, y5, y6] (k := 4) (by simp only [length_cons, length_nil]; omega); rw [hrec.is] at this; have e : ([y0, y1, y2, y3, y4, y5, y6] : List ByteArray).getD 4 ByteArray.empty = y4 := rfl; rw [e] at this; omega
 have hy5 : y5.size ≤ 2048 := by have := X0 [y0, y1, y2, y3, y4, y5, y6] (k := 5) (by simp only [length_cons, length_nil]; omega); rw [hrec.is] at this; have e : ([y0, y1, y2, y3, y4, y5, y6] : List ByteArray).getD 5 ByteArray.empty = y5 := rfl; rw [e] at this; omega
 have hy6 : y6.size ≤ 2048 := by have := X0 [y0, y1, y2, y3, y4, y5, y6] (k := 6) (by simp only [length_cons, length_nil]; omega); rw [hrec.is] at this; have e : ([y0, y1, y2, y3, y4, y5, y6] : List ByteArray).getD 6 ByteArray.empty = y6 := rfl; rw [e] at this; omega
 revert a;refine xrl<|xy rfl (vb z10 rfl) ?_;refine yal z10 E ?_;clear E;intro w4 b3 E;refine yst E 0 ?_;clear E;intro w5 E;replace E:=E.nm;refine xne<|xsr<|xr 1 rfl<|xy rfl (vx 9 0 1 rfl)<|xy rfl (ve Zo E.o 1 0 rfl rfl rfl rfl) ?_;refine ycB (X7 y0 _ (by omega)) func166 E ?_;clear E;intro w6 E;refine xr 3 rfl<|Xf 0 rfl ?_;refine ysF 0 E ?_;clear E;intro w7 E;replace E:=E.nm;refine xne<|xsr<|xr 1 rfl<|xy rfl (vx 9 1 1 rfl)<|xy rfl (ve Zo E.o 1 1 rfl rfl rfl rfl) ?_;refine ycB (X7 y1 _ (by omega)) func166 E ?_;clear E;intro w8 E;refine xr 3 rfl<|Xf 1 rfl ?_;refine ysF 0 E ?_;clear E;intro w9 E;replace E:=E.nm;refine xne<|xsr<|xr 1 rfl<|xy rfl (vx 9 2 1 rfl)<|xy rfl (ve Zo E.o 1 2 rfl rfl rfl rfl) ?_;refine ycB (X7 y2 _ (by omega)) func166 E ?_;clear E;intro w10 E;refine xr 3 rfl<|Xf 2 rfl ?_;refine ysF 0 E ?_;clear E;intro w11 E;replace E:=E.nm;refine xne<|xsr<|xr 1 rfl<|xy rfl (vx 9 3 1 rfl)<|xy rfl (ve Zo E.o 1 3 rfl rfl rfl rfl) ?_;refine ycB (Zgz y3 _ (by omega)) func169 E ?_;clear E;intro w12 E;refine xr 3 rfl<|Xf 3 rfl<|Xf 0 rfl ?_;intro a J;refine Z7 rfl rfl rfl (J.ev rfl) (J.ev rfl) E.o 0 rfl (by kernel_rfl) rfl (by kernel_rfl) (rs := [.int .i64 (Xk y0), .int .i64 (Xk y1), .int .i64 (Xk y2), .int .i64 ((UA y3).aA), .int .i64 ((UA y3).al), .int .i64 ((UA y3).av), .int .i64 ((UA y3).aC), .int .i64 ((UA y3).ar), .int .i64 0, .int .i64 0]) rfl ?_; clear E; intro w13 E; replace E := Bx.mk E;replace E:=E.nm;revert a;refine xne<|xsr<|xr 1 rfl<|xy rfl (vx 9 4 1 rfl)<|xy rfl (ve Zo E.o 1 4 rfl rfl rfl rfl) ?_;refine ycB (X7 y4 _ (by omega)) func166 E ?_;clear E;intro w14 E;refine xr 3 rfl<|Xf 3 rfl<|Xf 5 rfl ?_;refine ysF 0 E ?_;clear E;intro w15 E;replace E:=E.nm;refine xne<|xsr<|xr 1 rfl<|xy rfl (vx 9 5 1 rfl)<|xy rfl (ve Zo E.o 1 5 rfl rfl rfl rfl) ?_;refine ycB (X7 y5 _ (by omega)) func166 E ?_;clear E;intro w16 E;refine xr 3 rfl<|Xf 3 rfl<|Xf 6 rfl ?_;refine ysF 0 E ?_;clear E;intro w17 E;replace E:=E.nm;refine xne<|xsq<|xsr<|Xw 0 10 E rfl rfl ?_;refine ycB (J1 (⟨Xk y0, Xk y1, Xk y2, ⟨UA y3, Xk y4, Xk y5⟩⟩ : Zc) _) func147 E ?_;clear E;intro w18 E;refine xr 2 rfl<|xcs 75 rfl (fun cc2=>?_) fun cc2=>?_;refine xr 5 rfl<|xne<|xct rfl<|xsr<|xy rfl (vb z10 rfl) ?_;refine yst E 2 ?_;clear E;intro w19 E;replace E:=E.nm;refine xr 1 rfl<|xne<|xre<|xtr ?_;intro a J;refine ZR J results154 (J.resBox rfl (E.o.box 2 rfl) (by kernel_rfl)) (J.res rfl) ?_;refine .inr ⟨fun x hx hxs => ?_, rfl, E.o.bel⟩;have hl6 := Qe hx; rw [hxs] at hl6; have hx2 := Vd x; rw [hxs] at hx2; have hsm := (Zal hx).1; have k1 := hsm.links; have k2 := hsm.size; have k3 := hsm.many; have k4 := hsm.depth; have k5 := hsm.kind; have hel := J0 x.aq;have hone := hrec.one hl6;simp only [Uk, List.cons.injEq, and_true] at hone; obtain ⟨z0, z1, z2, z3, z4, z5, _⟩ := hone;have e3 : (⟨Xk y0, Xk y1, Xk y2, ⟨UA y3, Xk y4, Xk y5⟩⟩ : Zc) = x := by rw [z0, z1, z2, z3, z4, z5, XT (by omega), XT (by omega), XT (by omega), XT (by omega), XT (by omega), show UA (YM x.au.ai) = x.au.ai from by unfold UA; rw [Zed (Zc.ok_is hx).root rfl]; rfl]
 rw [e3] at cc2; simp [hx] at cc2;refine Xw 0 10 E rfl rfl ?_;refine Jg (Vx (⟨Xk y0, Xk y1, Xk y2, ⟨UA y3, Xk y4, Xk y5⟩⟩ : Zc) _) func128 E ?_;clear E;intro w20 E;refine xr 1 rfl<|xy rfl (fun a J=>Qk rfl (J.ev rfl) (J.ev rfl))<|xr 1 rfl<|xne<|xcs 80 rfl (fun cc3=>?_) fun cc3=>?_;refine xct rfl<|xsr<|xy rfl (vb z10 rfl) ?_;refine yst E 2 ?_;clear E;intro w21 E;replace E:=E.nm;refine xr 1 rfl<|xne<|xre<|xtr ?_;intro a J;refine ZR J results154 (J.resBox rfl (E.o.box 2 rfl) (by kernel_rfl)) (J.res rfl) ?_;refine .inr ⟨fun x hx hxs => ?_, rfl, E.o.bel⟩;have hl6 := Qe hx; rw [hxs] at hl6; have hx2 := Vd x; rw [hxs] at hx2; have hsm := (Zal hx).1; have k1 := hsm.links; have k2 := hsm.size; have k3 := hsm.many; have k4 := hsm.depth; have k5 := hsm.kind; have hel := J0 x.aq;have hone := hrec.one hl6;simp only [Uk, List.cons.injEq, and_true] at hone; obtain ⟨z0, z1, z2, z3, z4, z5, _⟩ := hone;have e3 : (⟨Xk y0, Xk y1, Xk y2, ⟨UA y3, Xk y4, Xk y5⟩⟩ : Zc) = x := by rw [z0, z1, z2, z3, z4, z5, XT (by omega), XT (by omega), XT (by omega), XT (by omega), XT (by omega), show UA (YM x.au.ai) = x.au.ai from by unfold UA; rw [Zed (Zc.ok_is hx).root rfl]; rfl]
 rw [e3, hxs] at cc3; simp [hx] at cc3;refine xcf rfl<|xsk<|xet<|xsr<|Xw 0 10 E rfl rfl ?_;refine yst E 2 ?_;clear E;intro w22 E;replace E:=E.nm;refine xr 1 rfl<|xne<|xre ?_;intro a J;refine ZR J results154 (J.resBox rfl (E.o.box 2 rfl) (by kernel_rfl)) (J.res rfl) ?_;exact .inl ⟨(⟨Xk y0, Xk y1, Xk y2, ⟨UA y3, Xk y4, Xk y5⟩⟩ : Zc), by simpa using cc2, ZV (by simpa using cc3), rfl, E.o.bel⟩;refine ⟨_, rfl, ?_⟩; replace E := Bx.mk (E.o.later hb);clear hb;refine xr 5 rfl<|xne<|xsq<|xsr<|xr 7 rfl<|xne<|xct rfl<|xsr<|xy rfl (vb z10 rfl) ?_;refine yst E 0 ?_;clear E;intro w23 E;replace E:=E.nm;refine xr 1 rfl<|xne<|xre<|xtr ?_;intro a J;refine ZR J results154 (J.resBox rfl (E.o.box 0 rfl) (by kernel_rfl)) (J.res rfl) ?_;refine .inr ⟨fun x hx hxs => ?_, rfl, E.o.bel⟩;have hl6 := Qe hx; rw [hxs] at hl6; have hx2 := Vd x; rw [hxs] at hx2; have hsm := (Zal hx).1; have k1 := hsm.links; have k2 := hsm.size; have k3 := hsm.many; have k4 := hsm.depth; have k5 := hsm.kind; have hel := J0 x.aq;exact hno _ hl6 (by omega)
def XU (n : Nat) : ByteArray := ⟨(replicate n (0 : UInt8)).toArray⟩
theorem ZP (n : Nat) : (XU n).size = n := by rw [Zi]; simp [XU]
def longN (size : Int) (k : Nat) : Nat := (min 12 (size - (k : Int) * 12)).toNat
theorem Zl3 (size : Int) (k : Nat) : longN size k ≤ 12 := by unfold longN; omega
def VX (s : ByteArray) : Bool := s.data.toList.getLast? == some 0
theorem Zl4 {o : Option ByteArray} (a b : ByteArray) : (o.map (b ++ ·)).map (a ++ ·) = o.map ((a ++ b) ++ ·) := by
 cases o
 ·rfl
 ·simp only [Option.map_some, Option.some.injEq]
  exact (Zfw _ _ _).symm
theorem Zkn {s : ByteArray} (h : ¬ 0 < s.size) : VX s = false := by
 unfold VX;rw [List.eq_nil_of_length_eq_zero (l := s.data.toList) (by rw [← Zi]; omega)]; rfl
theorem ZfC {s : ByteArray} (h : 0 < s.size) : VX s = ((((s.get! (s.size - 1)).toNat : Nat) : Int) == 0) := by
 unfold VX;rw [List.getLast?_eq_getElem?, ← Zi, QP (by omega)]
 by_cases e : s.get! (s.size - 1) = 0
 ·rw [e]; rfl
 ·rw [beq_eq_false_iff_ne.2 fun x => e (Option.some.inj x)]
  refine (beq_eq_false_iff_ne.2 fun x => e ?_).symm;have : (s.get! (s.size - 1)).toNat = 0 := by omega
  exact UInt8.toNat_inj.1 this
def Zdq (s : ByteArray) : ByteArray := ⟨(s.data.toList.reverse.dropWhile (· == 0)).reverse.toArray⟩
theorem ZfD {s : ByteArray} (h : VX s = false) : Zdq s = s := by
 apply Yz
 show (s.data.toList.reverse.dropWhile (· == 0)).reverse = s.data.toList;unfold VX at h;rcases List.eq_nil_or_concat s.data.toList with e | ⟨r, b, e⟩
 ·rw [e]; rfl
 ·rw [e, List.concat_eq_append, List.getLast?_concat] at h
  have hb : b ≠ 0 := fun x => by rw [x] at h; exact absurd h (by decide)
  rw [e, List.concat_eq_append, List.reverse_append, List.reverse_singleton, List.singleton_append, List.dropWhile_cons, if_neg (by simpa using hb), List.reverse_cons, List.reverse_reverse]
theorem Zko {s : ByteArray} (h : VX s = true) : Zdq (s.extract 0 (s.size - 1)) = Zdq s := by
 unfold Zdq
 congr 3
 rw [Z8, drop_zero, Nat.sub_zero, Zi, ← List.dropLast_eq_take];unfold VX at h;rcases List.eq_nil_or_concat s.data.toList with e | ⟨r, b, e⟩
 ·rw [e] at h; cases h
 ·rw [e, List.concat_eq_append, List.getLast?_concat] at h
  obtain rfl : b = 0 := by simpa using h
  rw [e, List.concat_eq_append, List.dropLast_concat, List.reverse_append, List.reverse_singleton, List.singleton_append, List.dropWhile_cons]; rfl
theorem Zkp (s : ByteArray) : (Zdq s).size ≤ s.size := by
 rw [Zi, Zi];show ((s.data.toList.reverse.dropWhile (· == 0)).reverse).length ≤ _;rw [List.length_reverse];have : ∀ l : List UInt8, (l.dropWhile (· == 0)).length ≤ l.length := fun l => by
  induction l with
  | nil => exact Nat.le_refl _
  | cons a r ih => rw [List.dropWhile_cons]; split <;> simp only [length_cons] <;> omega
 exact Nat.le_trans (this _) (by rw [List.length_reverse]; exact Nat.le_refl _)
theorem XN {st : Za} (h : st.ok = true) : Xu st := by
 have ho := Za.ok_spec h;refine ⟨ho.rows, fun i => ?_⟩
 by_cases hi : i < 64
 ·have := UC ho.each hi
  unfold YZ at this;rw [Bool.and_eq_true] at this;have := of_decide_eq_true this.1
  omega
 ·rw [getD_eq_getElem?_getD, List.getElem?_eq_none (by rw [ho.rows]; omega)]
  exact Nat.zero_le _
end Go.Proofs.YtfhdmfcfcgbgeaaGreat
