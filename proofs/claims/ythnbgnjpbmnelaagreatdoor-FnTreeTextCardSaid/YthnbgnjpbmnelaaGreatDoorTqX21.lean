/- A part of the proof in YthnbgnjpbmnelaaGreatDoorTqX34. -/
import Derived.Shelf.Strconv.Clone
import Derived.Shelf.Strings.Cut
import Derived.Test.YthnbgnjpbmnelaaGreatDoorTqX20
namespace Go.Proofs.YthnbgnjpbmnelaaGreatDoor
open Go.Proofs.Tryz
open _root_.ByteArray (size_extract)
open List (length length_append length_cons length_nil length_take map_cons mem_append mem_append_left mem_append_right mem_cons mem_cons_of_mem mem_cons_self mem_singleton)
set_option linter.unusedVariables false
set_option linter.unusedSimpArgs false
set_option maxHeartbeats 1000000
set_option maxRecDepth 100000
open Go.Shelf
def Zim : Go.Shelf.Ren := ⟨fun | 145 => 86 | 217 => 266 | 219 => 217 | 220 => 157 | 224 => 268 | 225 => 267 | 266 => 312 | 267 => 269 | 314 => 313 | n => n, fun | 3 => 3 | 4 => 4 | 5 => 5 | 9 => 9 | 46 => 170 | 51 => 230 | 59 => 124 | 146 => 322 | n => n, fun | 1 => 0 | n => n⟩
theorem Zou : Go.Proofs.Lays.n145 prog Zim := {
 mixed := by kernel_rfl
 f145 := Tryz.func86.trans (congrArg some (by kernel_rfl))
 f217 := Tryz.func266.trans (congrArg some (by kernel_rfl))
 f219 := Tryz.func217.trans (congrArg some (by kernel_rfl))
 f220 := Tryz.func157.trans (congrArg some (by kernel_rfl))
 f224 := Tryz.func268.trans (congrArg some (by kernel_rfl))
 f225 := Tryz.func267.trans (congrArg some (by kernel_rfl))
 f266 := Tryz.func312.trans (congrArg some (by kernel_rfl))
 f267 := Tryz.func269.trans (congrArg some (by kernel_rfl))
 f314 := Tryz.func313.trans (congrArg some (by kernel_rfl))
 t3 := Tryz.underlying3
 a3 := Tryz.isAgg3
 z3 := Tryz.sizeOf3
 v3 := Tryz.zeroValue3
 t4 := Tryz.underlying4
 a4 := Tryz.isAgg4
 z4 := Tryz.sizeOf4
 v4 := Tryz.zeroValue4
 t5 := Tryz.underlying5
 a5 := Tryz.isAgg5
 z5 := Tryz.sizeOf5
 v5 := Tryz.zeroValue5
 t9 := Tryz.underlying9
 a9 := Tryz.isAgg9
 z9 := Tryz.sizeOf9
 v9 := Tryz.zeroValue9
 t46 := Tryz.underlying170
 a46 := Tryz.isAgg170
 z46 := Tryz.sizeOf170
 v46 := Tryz.zeroValue170
 t51 := Tryz.underlying230
 a51 := Tryz.isAgg230
 z51 := Tryz.sizeOf230
 v51 := Tryz.zeroValue230
 t59 := Tryz.underlying124
 a59 := Tryz.isAgg124
 z59 := Tryz.sizeOf124
 v59 := Tryz.zeroValue124
 t146 := Tryz.underlying322
 a146 := Tryz.isAgg322
 z146 := Tryz.sizeOf322
 v146 := Tryz.zeroValue322
 g1 := by kernel_rfl }
def Zf1 : Go.Shelf.Ren := ⟨fun | 316 => 159 | n => n, fun | 0 => 0 | 3 => 3 | 4 => 4 | 5 => 5 | 9 => 9 | 37 => 54 | 127 => 244 | n => n, fun | n => n⟩
theorem ZlQ : Go.Proofs.LaysM.n316 prog Zf1 := {
 mixed := by kernel_rfl
 f316 := Tryz.func159.trans (congrArg some (by kernel_rfl))
 t0 := Tryz.underlying0
 a0 := Tryz.isAgg0
 z0 := Tryz.sizeOf0
 v0 := Tryz.zeroValue0
 t3 := Tryz.underlying3
 a3 := Tryz.isAgg3
 z3 := Tryz.sizeOf3
 v3 := Tryz.zeroValue3
 t4 := Tryz.underlying4
 a4 := Tryz.isAgg4
 z4 := Tryz.sizeOf4
 v4 := Tryz.zeroValue4
 t9 := Tryz.underlying9
 a9 := Tryz.isAgg9
 z9 := Tryz.sizeOf9
 v9 := Tryz.zeroValue9
 t37 := Tryz.underlying54
 a37 := Tryz.isAgg54
 z37 := Tryz.sizeOf54
 v37 := Tryz.zeroValue54
 t127 := Tryz.underlying244
 a127 := Tryz.isAgg244
 z127 := Tryz.sizeOf244
 v127 := Tryz.zeroValue244
 t5 := Tryz.underlying5
 a5 := Tryz.isAgg5
 z5 := Tryz.sizeOf5
 v5 := Tryz.zeroValue5
 i0 := by kernel_rfl
 i3 := by kernel_rfl
 i4 := by kernel_rfl
 i5 := by kernel_rfl
 i9 := by kernel_rfl
 i37 := by kernel_rfl
 i127 := by kernel_rfl }
open Go.RowKit
theorem Znk (s : ByteArray) (w : World) (hM : ZgY w) (hs : s.size ≤ 4294967280) : Calls prog 86 #[.string s, .string ⟨#[58]⟩] w fun e w' => ((58 : UInt8) ∉ s.data.toList ∧ (∃ b a : ByteArray, e = .returned (.tuple #[.string b, .string a, .bool false])) ∧ Below w.heap.size w w') ∨ (∃ num tail : ByteArray, s.data.toList = num.data.toList ++ 58 :: tail.data.toList ∧ (58 : UInt8) ∉ num.data.toList ∧ e = .returned (.tuple #[.string num, .string tail, .bool true]) ∧ Below w.heap.size w w') := by
 obtain ⟨m, hm⟩ := hM;refine (Any.strings_Cut Zou s ⟨#[58]⟩ m w (by omega) hm).mono ?_;rintro e w' ⟨rfl, n, rfl⟩;rcases Zj5 58 s.data.toList with ⟨h1, h2⟩ | ⟨d, t, h1, h2, h3⟩
 ·refine .inl ⟨h1, ⟨⟨(Go.Lib.cut s.data.toList [58]).1.toArray⟩, ⟨(Go.Lib.cut s.data.toList [58]).2.1.toArray⟩, ?_⟩, ZK _ _ _⟩
  show Ending.returned (.tuple #[_, _, .bool (Go.Lib.cut s.data.toList [58]).2.2]) = _;rw [h2]
 ·refine .inr ⟨⟨d.toArray⟩, ⟨t.toArray⟩, h1, h2, ?_, ZK _ _ _⟩
  show Ending.returned (.tuple #[.string ⟨(Go.Lib.cut s.data.toList [58]).1.toArray⟩, .string ⟨(Go.Lib.cut s.data.toList [58]).2.1.toArray⟩, .bool (Go.Lib.cut s.data.toList [58]).2.2]) = _;rw [h3]
theorem Zin (s : ByteArray) (w0 : World) (hs : s.size ≤ 281474976710656) : Calls prog 88 #[.string s] w0 fun e w' => e = .returned (.string s) ∧ Below w0.heap.size w0 w' := by
 have E := Bx.mk (St.start w0);refine ent func88 ntmps88 ?_;refine xsr<|xr 1 rfl<|xne<|xsr<|xr 1 rfl ?_;refine ycB (Any.stringslite_Clone ZlQ s _ (by omega)) func159 E ?_;clear E;intro w1 E;refine xr 1 rfl<|xne<|xre<|xb1 results88 rfl ?_;exact ⟨rfl, E.o.bel⟩
theorem ZeB (s : ByteArray) (w0 : World) (hT : ZaE w0) (hM : ZgY w0) (hE : ZfX w0) (hs : s.size ≤ 9223372036854775807) : Calls prog 27 #[.string s] w0 fun e w' => (∃ xs, IsRec s xs ∧ s.size ≤ 2048 ∧ ∃ ao cp, e = .returned (.tuple #[.slice ao xs.length cp, .bool true]) ∧ St w0 [Zg Zt 1 9 (.slice ao xs.length cp) xs] w') ∨ ((∀ l, IsRec s l → s.size ≤ 2048 → False) ∧ e = .returned (.tuple #[.slice none 0 0, .bool false]) ∧ Below w0.heap.size w0 w') := by
 have HT := Bx.mk hT; have HM := Bx.mk hM; have HE := Bx.mk hE; clear hT hM hE;have E := Bx.mk (St.start w0);refine ent func27 ntmps27 ?_;refine xsr<|xr 2 rfl<|xne<|xsq<|xsr<|xr 1 rfl<|xy rfl (fun a J=>ZI rfl (J.ev rfl) (by kernel_rfl))<|xr 1 rfl<|xne<|xcd 13 rfl (fun _ dcc1=>?_) fun _ dcc1=>?_;refine xct rfl<|xsr<|xr 2 rfl<|xne<|xre<|xtr<|xb2 results27 rfl rfl ?_;exact .inr ⟨fun l h h2 => absurd h2 (by omega), rfl, E.o.bel⟩;refine xcf rfl<|xsk<|xet<|xsq ?_;have hsz : s.size ≤ 2048 := by omega
 refine xrl<|xr 1 rfl<|xne<|xsq<|xsr<|xr 2 rfl<|xne<|xbl ?_;replace E := Bx.mk (E.o.nilRow Zt 1 9 none);intro a J;refine Zs (ι := Nat) (fun k a w => ∃ (ao : Option Addr) (cp : Nat) (xs : List ByteArray) (rest : ByteArray), (k = rest.size ∧ J0 s xs rest ∧ xs.length ≤ 60) ∧ Fr 56 a [(0, .string s), (4, .slice ao xs.length cp), (5, .string rest)] ∧ St w0 ([Zg Zt 1 9 (.slice ao xs.length cp) xs]) w) (fun k => k) s.size ⟨_, _, [], s, ⟨rfl, J0.zero s, Nat.zero_le _⟩, J.ls _, E.o⟩ ?_;clear J E; clear a;rintro k a w1 ⟨ao, cp, xs, rest, ⟨hkr, hto, hxl⟩, J, E⟩;replace E := Bx.mk E;have hrs := hto.size;revert a;refine xsq<|xsr<|xr 1 rfl<|xy rfl (fun a J=>Xn rfl (J.ev rfl) (J.ev rfl))<|xne<|xcs 16 rfl (fun cc2=>?_) fun cc2=>?_
 have hre : (rest.toList == (⟨#[]⟩ : ByteArray).toList) = false := by simpa using cc2
 refine xct rfl<|xsk<|xet<|xbl<|xsr<|xr 1 rfl ?_;refine yc (Znk rest _ (HM.o.below E.o.bel) (by omega)) func86 ?_;rintro _ w2 (⟨h58, ⟨cb, ca, rfl⟩, hb⟩ | ⟨num, tail, hcut, h58, rfl, hb⟩);refine ⟨_, rfl, ?_⟩; replace E := Bx.mk (E.o.later hb);clear hb;refine xr 7 rfl<|xne<|xsr<|xr 1 rfl ?_;refine yc (VA cb _ (HT.o.below E.o.bel) (HE.o.below E.o.bel)) func87 ?_;rintro _ w3 (⟨n, hng, rfl, hb⟩ | ⟨hng, rfl, hb⟩);refine ⟨_, rfl, ?_⟩; replace E := Bx.mk (E.o.later hb);clear hb;refine xr 5 rfl<|xne<|xsq<|xsr<|xr 17 rfl<|xne<|xct rfl<|xsr<|xr 2 rfl<|xne<|xre<|xtr<|xbr<|xtr<|xbr<|xtr<|xb2 results27 rfl rfl ?_;refine .inr ⟨fun l h h2 => ?_, rfl, E.o.bel⟩;obtain ⟨y, ws, e1, e2, e3, e4⟩ := hto.go h.is h2 h.many hre;exact h58 (by rw [e2]; simp);refine ⟨_, rfl, ?_⟩; replace E := Bx.mk (E.o.later hb);clear hb;refine xr 5 rfl<|xne<|xsq<|xsr<|xr 17 rfl<|xne<|xct rfl<|xsr<|xr 2 rfl<|xne<|xre<|xtr<|xbr<|xtr<|xbr<|xtr<|xb2 results27 rfl rfl ?_;refine .inr ⟨fun l h h2 => ?_, rfl, E.o.bel⟩;obtain ⟨y, ws, e1, e2, e3, e4⟩ := hto.go h.is h2 h.many hre;exact h58 (by rw [e2]; simp);refine ⟨_, rfl, ?_⟩; replace E := Bx.mk (E.o.later hb);clear hb;have htl : tail.size ≤ 2048 := by have h1 := congrArg length hcut; rw [length_append, length_cons] at h1; have h2 := Zf rest; have h3 := Zf tail; have h4 := hto.size; omega
 refine xr 7 rfl<|xne<|xsr<|xr 1 rfl ?_;refine yc (VA num _ (HT.o.below E.o.bel) (HE.o.below E.o.bel)) func87 ?_;rintro _ w4 (⟨n, hng, rfl, hb⟩ | ⟨hng, rfl, hb⟩);refine ⟨_, rfl, ?_⟩; replace E := Bx.mk (E.o.later hb);clear hb;refine xr 5 rfl<|xne<|xsq<|xsr<|xr 9 rfl<|xy rfl (fun a J=>ZI rfl (J.ev rfl) (by kernel_rfl))<|xr 3 rfl<|xcd 40 rfl (fun _ dcc3=>?_) fun _ dcc3=>?_;refine xr 4 rfl<|xne<|xct rfl<|xsr<|xr 2 rfl<|xne<|xre<|xtr<|xbr<|xtr<|xbr<|xtr<|xb2 results27 rfl rfl ?_;refine .inr ⟨fun l h h2 => ?_, rfl, E.o.bel⟩;obtain ⟨y, ws, e1, e2, e3, e4⟩ := hto.go h.is h2 h.many hre;have e5 := ZfZ (Uv y.size) h58 (e2.symm.trans hcut);rw [Yo e5.1] at e3; have e6 := Option.some.inj (e3.symm.trans hng); have e7 := congrArg length e5.2; rw [length_append] at e7; have e8 := Zf y; have e9 := Zf tail; omega;refine xr 1 rfl<|xy rfl (vn 9 1 rfl)<|xr 2 rfl<|xne<|xce 44 rfl (fun _ dcc4=>?_) fun _ dcc4=>?_;refine xct rfl<|xsr<|xr 2 rfl<|xne<|xre<|xtr<|xbr<|xtr<|xbr<|xtr<|xb2 results27 rfl rfl ?_;refine .inr ⟨fun l h h2 => ?_, rfl, E.o.bel⟩;obtain ⟨y, ws, e1, e2, e3, e4⟩ := hto.go h.is h2 h.many hre;have e5 := ZfZ (Uv y.size) h58 (e2.symm.trans hcut);rw [Yo e5.1] at e3; have e6 := Option.some.inj (e3.symm.trans hng); have e7 := congrArg length e5.2; rw [length_append] at e7; have e8 := Zf y; have e9 := Zf tail; omega;refine xcf rfl<|xsk<|xet<|xsr<|xr 3 rfl<|xy rfl (fun a J=>JE (k := n) rfl (J.ev rfl) (J.ev rfl) (by kernel_rfl) (by omega) (by omega)) ?_;refine ycB (Zin (tail.extract 0 n) _ (by rw [size_extract]; omega)) func88 E ?_;clear E;intro w5 E;refine ybs Zt 9 1 [tail.extract 0 n] E ?_;clear E;intro b1 w6 E;refine yap X1 Zi E 1 (St.rdN E.o Zi 0 rfl) (ZL _) ?_;clear E;intro ao2 cp3 w7 E;refine xr 1 rfl<|xne<|xrl<|xr 2 rfl<|xy rfl (fun a J=>JF (k := n) rfl (J.ev rfl) (J.ev rfl) (by kernel_rfl) (by omega) (by omega))<|xr 1 rfl<|xni<|xeb<|xet ?_;have hz : xs.length + ([tail.extract 0 n]).length = (xs ++ ([tail.extract 0 n])).length := (length_append ..).symm;intro a J;rw [hz] at E J;have hto2 := hto.step hcut hng (by omega);have hlt : (tail.extract n tail.size).size < rest.size := by have h1 := congrArg length hcut; rw [length_append, length_cons] at h1; have h2 := Zf rest; have h3 := Zf tail; rw [size_extract]; omega
 replace E:=E.pks [1];exact ⟨(tail.extract n tail.size).size, ⟨_, _, xs ++ ([tail.extract 0 n]), tail.extract n tail.size, ⟨rfl, hto2, by rw [length_append, length_cons, length_nil]; omega⟩, J.less _ ⟨rfl, rfl, rfl, trivial⟩, (E.o.erase 1)⟩, (by rw [hkr]; exact hlt)⟩;refine ⟨_, rfl, ?_⟩; replace E := Bx.mk (E.o.later hb);clear hb;refine xr 5 rfl<|xne<|xsq<|xsr<|xr 17 rfl<|xne<|xct rfl<|xsr<|xr 2 rfl<|xne<|xre<|xtr<|xbr<|xtr<|xbr<|xtr<|xb2 results27 rfl rfl ?_;refine .inr ⟨fun l h h2 => ?_, rfl, E.o.bel⟩;obtain ⟨y, ws, e1, e2, e3, e4⟩ := hto.go h.is h2 h.many hre;have e5 := ZfZ (Uv y.size) h58 (e2.symm.trans hcut);rw [Yo e5.1] at e3; rw [e3] at hng; cases hng;have hre : (rest.toList == (⟨#[]⟩ : ByteArray).toList) = true := by simpa using cc2
 refine xcf rfl<|xex<|xtx<|xtx<|xbh<|xet<|xsr<|xr 3 rfl<|xne<|xre<|xb2 results27 rfl rfl ?_;replace E:=E.pks [0];exact .inl ⟨xs, ⟨hto.done hre, hxl⟩, hsz, _, _, rfl, E.o⟩
theorem ZlR (n : Nat) : ∀ x ∈ (Zw n).data.toList, x ≠ 46 := by
 intro x hx e;subst e;rw [Yd] at hx;obtain ⟨d, hd⟩ := QQ n 46 hx;obtain ⟨h1, h10⟩ := QP hd;have hn : (UInt8.ofNat (48 + d)).toNat = 48 + d := by rw [UInt8.toNat_ofNat']; omega
 rw [← h1] at hn;have : (46 : UInt8).toNat = 46 := rfl
 omega
theorem VC {n : Int} (h : 0 ≤ n ∧ n ≤ 999999999) : ∀ x ∈ (ZF n).data.toList, x ≠ 46 := by rw [YH h.1 h.2]; exact ZlR _
theorem Zbu {a : ByteArray} (h : ∀ x ∈ a.data.toList, x ≠ 46) (b : ByteArray) : Ze (a ++ (Zb7 ++ b)) 46 = a :: Ze b 46 := by
 unfold Ze;rw [Zz, Zz, show Zb7.data.toList = [46] from rfl, List.singleton_append, QO 46 _ _ h, map_cons]
theorem Zf2 {a : ByteArray} (h : ∀ x ∈ a.data.toList, x ≠ 46) : Ze a 46 = [a] := by
 unfold Ze;rw [QY 46 _ h, map_cons, List.map_nil]
theorem Ze6 (a b c : ByteArray) : a ++ b ++ c = a ++ (b ++ c) := Yo (by simp only [Zz, List.append_assoc])
theorem Qc {p : PtrD} (h : p.ok = true) (hh : p.hole = false) : Ze (ZV p) 46 = [ZF p.aB, ZF p.aj, ZF p.av, ZF p.aC, ZF p.aq] := by
 have hb := PtrD.ok_all h hh;rw [Ut h hh];simp only [Ze6];rw [Zbu (VC (by omega)), Zbu (VC (by omega)), Zbu (VC (by omega)), Zbu (VC (by omega)), Zf2 (VC (by omega))]
theorem Yw {n : Int} (h : 0 ≤ n ∧ n ≤ 999999999) : QB (ZF n) = some n.toNat := by rw [YH h.1 h.2]; exact Vu (by omega)
theorem ZlS {n : Int} {m : Nat} (h : 0 ≤ n ∧ n ≤ 999999999) (hg : QB (ZF n) = some m) : (m : Int) = n := by
 rw [Yw h] at hg;have := Option.some.inj hg
 omega
theorem YI {p : PtrD} (h : p.hole = true) : p = PtrD.zero := by
 unfold PtrD.hole at h;simp only [Bool.and_eq_true, beq_iff_eq] at h;obtain ⟨⟨⟨⟨h1, h2⟩, h3⟩, h4⟩, h5⟩ := h
 cases p
 simp only at h1 h2 h3 h4 h5;subst h1; subst h2; subst h3; subst h4; subst h5
 rfl
theorem Zg4 {p : PtrD} {s : ByteArray} (h : p.ok = true) (hs : ZV p = s) (hd : (s.toList == (⟨#[45]⟩ : ByteArray).toList) = false) : p.hole = false := by
 cases hh : p.hole with
 | false => rfl
 | true =>
  rw [Qj h hh] at hs;rw [← hs, show ((⟨#[45]⟩ : ByteArray).toList == (⟨#[45]⟩ : ByteArray).toList) = true from beq_self_eq_true _] at hd
  cases hd
theorem Zph {α : Type} {l : List α} (h : l.length = 5) : ∃ a b c d e, l = [a, b, c, d, e] := by
 match l, h with
 | [a, b, c, d, e], _ => exact ⟨a, b, c, d, e, rfl⟩
theorem ZdD {p q : PtrD} (hp : p.ok = true) (hq : q.ok = true) (h : ZV p = ZV q) : p = q := by
 cases h1 : p.hole with
 | true =>
  cases h2 : q.hole with
  | true => rw [YI h1, YI h2]
  | false =>
   have := Qc hq h2;rw [← h, Qj hp h1] at this;exact absurd (congrArg length this) (show ¬ (1 : Nat) = 5 by decide)
 | false =>
  cases h2 : q.hole with
  | true =>
   have := Qc hp h1;rw [h, Qj hq h2] at this;exact absurd (congrArg length this) (show ¬ (1 : Nat) = 5 by decide)
  | false =>
   have e1 := Qc hp h1;have e2 := Qc hq h2;rw [h, e2] at e1;have hb := PtrD.ok_all hp h1;have hc := PtrD.ok_all hq h2;simp only [List.cons.injEq, and_true] at e1;obtain ⟨k1, k2, k3, k4, k5⟩ := e1;have num : ∀ {m n : Int}, 0 ≤ m ∧ m ≤ 999999999 → 0 ≤ n ∧ n ≤ 999999999 → ZF m = ZF n → n = m := fun hm hn e => by
    have := Yw hm;rw [e, Yw hn] at this;have := Option.some.inj this
    omega
   have j1 := num (by omega) (by omega) k1;have j2 := num (by omega) (by omega) k2;have j3 := num (by omega) (by omega) k3;have j4 := num (by omega) (by omega) k4;have j5 := num (by omega) (by omega) k5
   cases p; cases q
   simp only at j1 j2 j3 j4 j5;subst j1; subst j2; subst j3; subst j4; subst j5
   rfl
open Go.Lib
def ZlT : ByteArray := ⟨#[44]⟩
def fanB (l : List PtrD) : ByteArray := Qz (l.map ZV) ZlT
theorem Zbv (c : UInt8) : ∀ (x : List UInt8) (r : List (List UInt8)), (∀ y ∈ x :: r, ∀ b ∈ y, b ≠ c) → splitL c (Go.Lib.join (x :: r) [c]) = x :: r
 | x, [], h => by
  rw [show Go.Lib.join [x] [c] = x by simp [Go.Lib.join, Go.Lib.joinTail]];exact QY c x (h x (mem_cons_self ..))
 | x, y :: r, h => by
  have e : Go.Lib.join (x :: y :: r) [c] = x ++ c :: Go.Lib.join (y :: r) [c] := by simp [Go.Lib.join, Go.Lib.joinTail]
  rw [e, QO c _ x (h x (mem_cons_self ..)), Zbv c y r fun z hz => h z (mem_cons_of_mem _ hz)]
theorem Zg5 {l : List ByteArray} {c : UInt8} (hne : l ≠ []) (h : ∀ y ∈ l, ∀ b ∈ y.data.toList, b ≠ c) : Ze (Qz l ⟨#[c]⟩) c = l := by
 match l, hne with
 | x :: r, _ =>
  unfold Ze Qz;show (splitL c (Go.Lib.join ((x :: r).map (·.data.toList)) [c])).map _ = _;rw [map_cons, Zbv c _ _ (fun y hy b hb => by
   rcases mem_cons.1 hy with rfl | hy
   ·exact h x (mem_cons_self ..) b hb
   ·obtain ⟨z, hz, rfl⟩ := List.mem_map.1 hy
    exact h z (mem_cons_of_mem _ hz) b hb), ← map_cons (f := fun y : ByteArray => y.data.toList)]
  exact Zdt (x :: r)
theorem Znl (c : UInt8) (hc : digitVal c = none) (n : Nat) : ∀ x ∈ (Zw n).data.toList, x ≠ c := by
 intro x hx e;subst e;obtain ⟨d, hd⟩ := QQ n x (by rw [← Yd]; exact hx);rw [hc] at hd
 cases hd
theorem Zf3 (c : UInt8) (hc : digitVal c = none) (n : Int) : ∀ x ∈ (ZF n).data.toList, x ≠ c := by
 unfold ZF
 split
 ·exact Znl c hc _
 ·intro x hx; simp at hx
theorem ZlU (p : PtrD) : ∀ x ∈ (ZV p).data.toList, x ≠ 44 := by
 cases h : p.ok with
 | false => rw [Zdb h]; intro x hx; simp at hx
 | true =>
  cases hh : p.hole with
  | true => rw [Qj h hh]; intro x hx; rw [show x = 45 from by simpa using hx]; decide
  | false =>
   rw [Ut h hh];intro x hx;have hn := fun n => Zf3 44 (by decide) n x
   simp only [Zz, mem_append, show Zb7.data.toList = [46] from rfl, mem_singleton] at hx;rcases hx with (((((((hx | hx) | hx) | hx) | hx) | hx) | hx) | hx) | hx
   all_goals first | exact hn _ hx | (rw [hx]; decide)
theorem ZaL {l : List PtrD} (hne : l ≠ []) : Ze (fanB l) 44 = l.map ZV := by
 refine Zg5 (by simpa using hne) fun y hy => ?_;obtain ⟨p, _, rfl⟩ := List.mem_map.1 hy;exact ZlU p
structure IsFan (s : ByteArray) (l : List PtrD) : Prop where
  n : l.length = 4
  ok : ∀ p ∈ l, p.ok = true
  some : l.all (fun p => p.hole) = false
  is : fanB l = s
theorem Zjl {l m : List PtrD} (hl : ∀ p ∈ l, p.ok = true) (hm : ∀ p ∈ m, p.ok = true) (h : l.map ZV = m.map ZV) : l = m := by
 induction l generalizing m with
 | nil => cases m with
  | nil => rfl
  | cons _ _ => simp at h
 | cons p l ih => cases m with
  | nil => simp at h
  | cons q m =>
   simp only [map_cons, List.cons.injEq] at h;rw [ZdD (hl p (mem_cons_self ..)) (hm q (mem_cons_self ..)) h.1, ih (fun x hx => hl x (mem_cons_of_mem _ hx)) (fun x hx => hm x (mem_cons_of_mem _ hx)) h.2]
theorem IsFan.one {s : ByteArray} {l m : List PtrD} (h : IsFan s l) (k : IsFan s m) : l = m := by
 refine Zjl h.ok k.ok ?_;rw [← ZaL (l := l) (fun e => by have := h.n; rw [e] at this; cases this), ← ZaL (l := m) (fun e => by have := k.n; rw [e] at this; cases this), h.is, k.is]
theorem IsFan.pieces {s : ByteArray} {l : List PtrD} (h : IsFan s l) : Ze s 44 = l.map ZV := by
 rw [← h.is];exact ZaL fun e => by have := h.n; rw [e] at this; cases this
open Classical in
noncomputable def ZlV (s : ByteArray) : Option (List PtrD) := if h : ∃ l, IsFan s l then some h.choose else none
theorem Zg6 {s : ByteArray} {l : List PtrD} (h : IsFan s l) : ZlV s = some l := by
 have he : ∃ l, IsFan s l := ⟨l, h⟩;unfold ZlV;rw [dif_pos he, he.choose_spec.one h]
theorem Znm {s : ByteArray} (h : ∀ l, ¬ IsFan s l) : ZlV s = none := by
 unfold ZlV;rw [dif_neg fun ⟨l, hl⟩ => h l hl]
def X3 (p : PtrD) (s : ByteArray) : Bool := p.ok && (!p.hole && ((p.av == (s.size : Int)) && (p.aC == Us s)))
def Yj (st : Za) (p : PtrD) : ByteArray := st.ac.getD p.aB.toNat ByteArray.empty
def Zm (st : Za) (p : PtrD) : ByteArray := bif p.hole then ByteArray.empty else bif X3 p (Yj st p) then Yj st p else ByteArray.empty
def XB (st : Za) (p : PtrD) : Bool := bif p.hole then true else X3 p (Yj st p)
theorem Y1 {st : Za} {p : PtrD} (h : p.hole = true) : Zm st p = ByteArray.empty := by unfold Zm; rw [h]; rfl
theorem ZaM {st : Za} {p : PtrD} (h : p.hole = true) : XB st p = true := by unfold XB; rw [h]; rfl
theorem Jn {st : Za} {p : PtrD} (h : p.hole = false) (hf : X3 p (Yj st p) = true) : Zm st p = Yj st p := by unfold Zm; rw [h, hf]; rfl
theorem Zg7 {st : Za} {p : PtrD} (h : p.hole = false) (hf : X3 p (Yj st p) = false) : Zm st p = ByteArray.empty := by unfold Zm; rw [h, hf]; rfl
theorem QD {st : Za} {p : PtrD} (h : p.hole = false) : XB st p = X3 p (Yj st p) := by unfold XB; rw [h]; rfl
def YC : List PtrD := [PtrD.zero, PtrD.zero, PtrD.zero, PtrD.zero]
theorem XS : PtrD.zero.hole = true := rfl
noncomputable def kids (st : Za) (p : PtrD) (level : Int) : Option (List PtrD) :=
 bif p.hole then some YC else bif XB st p && (p.aq == level) then (ZlV (Zm st p)).bind fun l => bif l.any (fun k => decide (p.aj < k.aj)) then none else some l else none
noncomputable def kidsS (st : Za) (p : PtrD) (level : Int) : Option (List PtrD) :=
 bif p.hole then some YC else bif p.ok && ((p.aq == level) && decide (p.aj ≤ st.ar)) then kids st p level else none
theorem Jo {st : Za} {p : PtrD} {n : Int} (h : p.hole = true) : kids st p n = some YC := by unfold kids; rw [h]; rfl
theorem JH {st : Za} {p : PtrD} {n : Int} (h : p.hole = true) : kidsS st p n = some YC := by unfold kidsS; rw [h]; rfl
theorem ZcM {st : Za} {p : PtrD} {n : Int} (h : p.hole = false) (hr : XB st p = false) : kids st p n = none := by unfold kids; rw [h, hr]; rfl
theorem ZdE {st : Za} {p : PtrD} {n : Int} (h : p.hole = false) (hr : (p.aq == n) = false) : kids st p n = none := by unfold kids; rw [h, hr, Bool.and_false]; rfl
theorem ZdF {st : Za} {p : PtrD} {n : Int} (h : p.hole = false) (hf : ∀ l, ¬ IsFan (Zm st p) l) : kids st p n = none := by
 unfold kids;rw [h, Znm hf]
 cases (XB st p && (p.aq == n)) <;> rfl
theorem Ze7 {st : Za} {p : PtrD} {n : Int} {l : List PtrD} (h : p.hole = false) (hf : IsFan (Zm st p) l) (hb : l.any (fun k => decide (p.aj < k.aj)) = true) : kids st p n = none := by
 unfold kids;rw [h, Zg6 hf]
 cases (XB st p && (p.aq == n))
 ·rfl
 ·simp only [cond_true, cond_false, Option.bind_some, hb]
theorem ZdG {st : Za} {p : PtrD} {n : Int} {l : List PtrD} (h : p.hole = false) (hr : XB st p = true) (hn : (p.aq == n) = true) (hf : IsFan (Zm st p) l) (hb : l.any (fun k => decide (p.aj < k.aj)) = false) : kids st p n = some l := by
 unfold kids;rw [h, Zg6 hf, hr, hn];simp only [cond_true, cond_false, Option.bind_some, hb, Bool.and_self]
theorem QE {st : Za} {p : PtrD} {n : Int} {l : List PtrD} (h : kids st p n = some l) : l.length = 4 ∧ (∀ k ∈ l, k.ok = true) ∧ (p.hole = true ∧ l = YC ∨ p.hole = false ∧ p.aq = n ∧ XB st p = true ∧ IsFan (Zm st p) l ∧ ∀ k ∈ l, k.aj ≤ p.aj) := by
 cases hh : p.hole with
 | true =>
  rw [Jo hh] at h;obtain rfl := Option.some.inj h;exact ⟨rfl, fun k hk => by simp only [YC, mem_cons, List.not_mem_nil, or_false, or_self] at hk; rw [hk]; rfl, .inl ⟨rfl, rfl⟩⟩
 | false =>
  cases hr : XB st p with
  | false => rw [ZcM hh hr] at h; cases h
  | true =>
   cases hn : (p.aq == n) with
   | false => rw [ZdE hh hn] at h; cases h
   | true =>
    by_cases hf : ∃ m, IsFan (Zm st p) m
    ·obtain ⟨m, hm⟩ := hf
     cases hb : m.any (fun k => decide (p.aj < k.aj)) with
     | true => rw [Ze7 hh hm hb] at h; cases h
     | false =>
      rw [ZdG hh hr hn hm hb] at h;obtain rfl := Option.some.inj h;refine ⟨hm.n, hm.ok, .inr ⟨rfl, eq_of_beq hn, rfl, hm, fun k hk => ?_⟩⟩;have := (List.any_eq_false.1 hb) k hk;have := of_decide_eq_false (by simpa using this : decide (p.aj < k.aj) = false)
      omega
    ·rw [ZdF hh fun l hl => hf ⟨l, hl⟩] at h; cases h
theorem JI {st : Za} {p : PtrD} {n : Int} (hp : p.ok = true) (hb : p.aj ≤ st.ar) : kidsS st p n = kids st p n := by
 unfold kidsS;rw [hp, decide_eq_true hb, Bool.and_true, Bool.true_and]
 cases hh : p.hole with
 | true => rw [Jo hh]; rfl
 | false =>
  cases hn : (p.aq == n) with
  | false => rw [ZdE hh hn]; rfl
  | true => rfl
theorem VD {st : Za} {p : PtrD} {n : Int} (h : p.hole = false) (hn : (p.ok && ((p.aq == n) && decide (p.aj ≤ st.ar))) = false) : kidsS st p n = none := by unfold kidsS; rw [h, hn]; rfl
theorem Uw {st : Za} {p : PtrD} {n : Int} {l : List PtrD} (h : kidsS st p n = some l) : kids st p n = some l ∧ (p.hole = false → p.ok = true ∧ p.aj ≤ st.ar) := by
 cases hh : p.hole with
 | true => rw [JH hh] at h; rw [Jo hh]; exact ⟨h, fun e => by cases e⟩
 | false =>
  cases hc : (p.ok && ((p.aq == n) && decide (p.aj ≤ st.ar))) with
  | false => rw [VD hh hc] at h; cases h
  | true =>
   unfold kidsS at h;rw [hh, hc] at h;simp only [Bool.and_eq_true, decide_eq_true_eq] at hc;exact ⟨h, fun _ => ⟨hc.1, hc.2.2⟩⟩
noncomputable def YJ (f : PtrD → Option (List PtrD)) : List PtrD → Option (List PtrD)
 | [] => some []
 | p :: r => (f p).bind fun k => (YJ f r).map (k ++ ·)
theorem VE {f : PtrD → Option (List PtrD)} {p : PtrD} {r : List PtrD} (h : f p = none) : YJ f (p :: r) = none := by show Option.bind _ _ = _; rw [h]; rfl
theorem Zab {f : PtrD → Option (List PtrD)} {p : PtrD} {r k : List PtrD} (h : f p = some k) : YJ f (p :: r) = (YJ f r).map (k ++ ·) := by show Option.bind _ _ = _; rw [h]; rfl
theorem Znn {o : Option (List PtrD)} (a b : List PtrD) : (o.map (b ++ ·)).map (a ++ ·) = o.map ((a ++ b) ++ ·) := by cases o <;> simp
theorem ZcN {f g : PtrD → Option (List PtrD)} : ∀ {l : List PtrD}, (∀ p ∈ l, f p = g p) → YJ f l = YJ g l
 | [], _ => rfl
 | p :: r, h => by
  show Option.bind _ _ = Option.bind _ _;rw [h p (mem_cons_self ..), ZcN fun q hq => h q (mem_cons_of_mem _ hq)]
theorem Zb8 {f : PtrD → Option (List PtrD)} : ∀ {l m : List PtrD}, YJ f l = some m → (∀ p ∈ l, ∃ k, f p = some k) ∧ (∀ q ∈ m, ∃ p ∈ l, ∃ k, f p = some k ∧ q ∈ k) ∧ (∀ p ∈ l, ∀ k, f p = some k → ∀ q ∈ k, q ∈ m)
 | [], m, h => by
  obtain rfl : [] = m := Option.some.inj h;exact ⟨fun p hp => (nomatch hp), fun p hp => (nomatch hp), fun p hp => (nomatch hp)⟩
 | p :: r, m, h => by
  cases hk : f p with
  | none => rw [VE hk] at h; cases h
  | some k =>
   rw [Zab hk] at h
   cases hn : YJ f r with
   | none => rw [hn] at h; cases h
   | some n =>
    rw [hn] at h;obtain rfl : k ++ n = m := Option.some.inj h;obtain ⟨i1, i2, i3⟩ := Zb8 hn;refine ⟨fun q hq => ?_, fun q hq => ?_, fun q hq k2 hk2 x hx => ?_⟩
    ·rcases mem_cons.1 hq with rfl | hq
     ·exact ⟨k, hk⟩
     ·exact i1 q hq
    ·rcases mem_append.1 hq with hq | hq
     ·exact ⟨p, mem_cons_self .., k, hk, hq⟩
     ·obtain ⟨y, hy, z, hz, hq⟩ := i2 q hq
      exact ⟨y, mem_cons_of_mem _ hy, z, hz, hq⟩
    ·rcases mem_cons.1 hq with rfl | hq
     ·rw [hk] at hk2
      obtain rfl := Option.some.inj hk2;exact mem_append_left _ hx
     ·exact mem_append_right _ (i3 q hq k2 hk2 x hx)
theorem Ze8 {f : PtrD → Option (List PtrD)} (hf : ∀ p k, f p = some k → k.length = 4) : ∀ {l m : List PtrD}, YJ f l = some m → m.length = 4 * l.length
 | [], m, h => by obtain rfl : [] = m := Option.some.inj h; rfl
 | p :: r, m, h => by
  cases hk : f p with
  | none => rw [VE hk] at h; cases h
  | some k =>
   rw [Zab hk] at h
   cases hn : YJ f r with
   | none => rw [hn] at h; cases h
   | some n =>
    rw [hn] at h;obtain rfl : k ++ n = m := Option.some.inj h;have := Ze8 hf hn;rw [length_append, hf p k hk, length_cons]; omega
noncomputable def downL (f : PtrD → Int → Option (List PtrD)) : Nat → List PtrD → Option (List PtrD)
 | 0, l => some l
 | n + 1, l => (YJ (fun p => f p ((n + 1 : Nat) : Int)) l).bind (downL f n)
theorem JJ {f : PtrD → Int → Option (List PtrD)} {n : Nat} {l : List PtrD} (h : YJ (fun p => f p ((n + 1 : Nat) : Int)) l = none) : downL f (n + 1) l = none := by show Option.bind _ _ = _; rw [h]; rfl
theorem Jp {f : PtrD → Int → Option (List PtrD)} {n : Nat} {l m : List PtrD} (h : YJ (fun p => f p ((n + 1 : Nat) : Int)) l = some m) : downL f (n + 1) l = downL f n m := by show Option.bind _ _ = _; rw [h]; rfl
theorem Zb9 {f : PtrD → Int → Option (List PtrD)} (hf : ∀ p n k, f p n = some k → k.length = 4) : ∀ {n : Nat} {l m : List PtrD}, downL f n l = some m → m.length = 4 ^ n * l.length
 | 0, l, m, h => by obtain rfl : l = m := Option.some.inj h; omega
 | n + 1, l, m, h => by
  cases hn : YJ (fun p => f p ((n + 1 : Nat) : Int)) l with
  | none => rw [JJ hn] at h; cases h
  | some x =>
   rw [Jp hn] at h;rw [Zb9 hf h, Ze8 (fun p k => hf p _ k) hn, Nat.pow_succ, Nat.mul_assoc]
def depthN (many : Int) : Nat := if many ≤ 1 then 0 else if many ≤ 4 then 1 else 2
theorem YK (many : Int) : depthN many ≤ 2 := by unfold depthN; split <;> (try split) <;> omega
theorem ZaN {many : Int} (h : many ≤ 16) : many ≤ ((4 ^ depthN many : Nat) : Int) := by
 unfold depthN
 split
 ·simp; omega
 ·split
  ·simp; omega
  ·simp; omega
def Zg8 (st : Za) (many : Int) (i : Nat) (p : PtrD) : Bool := bif p.hole then p.aq == 0 else XB st p && ((p.aq == 0) && decide ((i : Int) < many))
def QW (st : Za) (many : Int) : Nat → List PtrD → Bool
 | _, [] => true
 | i, p :: r => Zg8 st many i p && QW st many (i + 1) r
def topB (st : Za) (t : Zd) : Bool := inB t.ah 0 16 && ((t.aw == (depthN t.ah : Int)) && (t.af.ok && decide (t.af.aj ≤ st.ar)))
noncomputable def leavesF (st : Za) (t : Zd) : Option (List PtrD) :=
 bif topB st t then (downL (kids st) (depthN t.ah) [t.af]).bind fun l => bif QW st t.ah 0 l then some (l.take t.ah.toNat) else none else none
noncomputable def VF (st : Za) (t : Zd) : Bool := (leavesF st t).isSome
theorem VG {st : Za} {t : Zd} (h : topB st t = false) : leavesF st t = none := by unfold leavesF; rw [h]; rfl
theorem Zbw {st : Za} {t : Zd} (h : downL (kids st) (depthN t.ah) [t.af] = none) : leavesF st t = none := by
 unfold leavesF
 cases topB st t
 ·rfl
 ·rw [h]; rfl
theorem ZcO {st : Za} {t : Zd} {l : List PtrD} (h : downL (kids st) (depthN t.ah) [t.af] = some l) (hb : QW st t.ah 0 l = false) : leavesF st t = none := by
 unfold leavesF
 cases topB st t
 ·rfl
 ·rw [h]
  simp only [cond_true, cond_false, Option.bind_some, hb]
theorem VH {st : Za} {t : Zd} {l : List PtrD} (h0 : topB st t = true) (h : downL (kids st) (depthN t.ah) [t.af] = some l) (hb : QW st t.ah 0 l = true) : leavesF st t = some (l.take t.ah.toNat) := by
 unfold leavesF;rw [h0, h];simp only [cond_true, cond_false, Option.bind_some, hb]
theorem VI {st : Za} {p : PtrD} {n : Int} {k : List PtrD} (h : kids st p n = some k) : k.length = 4 := (QE h).1
theorem ZaO {st : Za} {t : Zd} {r : List PtrD} (h : leavesF st t = some r) : ∃ l, topB st t = true ∧ downL (kids st) (depthN t.ah) [t.af] = some l ∧ QW st t.ah 0 l = true ∧ r = l.take t.ah.toNat ∧ l.length = 4 ^ depthN t.ah ∧ r.length = t.ah.toNat := by
 cases h0 : topB st t with
 | false => rw [VG h0] at h; cases h
 | true =>
  cases h1 : downL (kids st) (depthN t.ah) [t.af] with
  | none => rw [Zbw h1] at h; cases h
  | some l =>
   cases h2 : QW st t.ah 0 l with
   | false => rw [ZcO h1 h2] at h; cases h
   | true =>
    rw [VH h0 h1 h2] at h;obtain rfl := Option.some.inj h;have hl : l.length = 4 ^ depthN t.ah := by rw [Zb9 (fun p n k => VI) h1]; simp
    refine ⟨l, rfl, rfl, h2, rfl, hl, ?_⟩;unfold topB at h0;rw [Bool.and_eq_true] at h0;have hi := Zu h0.1;have := ZaN hi.2;rw [length_take, hl]
    omega
theorem U2 {st : Za} : ∀ {n : Nat} {l : List PtrD}, (∀ p ∈ l, p.ok = true ∧ p.aj ≤ st.ar) → 0 ≤ st.ar → downL (kidsS st) n l = downL (kids st) n l ∧ ∀ m, downL (kids st) n l = some m → ∀ p ∈ m, p.ok = true ∧ p.aj ≤ st.ar
 | 0, l, h, _ => ⟨rfl, fun m hm p hp => by obtain rfl : l = m := Option.some.inj hm; exact h p hp⟩
 | n + 1, l, h, h0 => by
  have e : YJ (fun p => kidsS st p ((n + 1 : Nat) : Int)) l = YJ (fun p => kids st p ((n + 1 : Nat) : Int)) l := ZcN fun p hp => JI (h p hp).1 (h p hp).2
  cases hn : YJ (fun p => kids st p ((n + 1 : Nat) : Int)) l with
  | none => rw [JJ (e.trans hn), JJ hn]; exact ⟨rfl, fun m hm => by cases hm⟩
  | some x =>
   rw [Jp (e.trans hn), Jp hn];refine U2 (fun q hq => ?_) h0;obtain ⟨p, hp, k, hk, hq⟩ := (Zb8 hn).2.1 q hq;obtain ⟨_, ok, hc⟩ := QE hk;refine ⟨ok q hq, ?_⟩;rcases hc with ⟨_, rfl⟩ | ⟨_, _, _, _, hb⟩
   ·simp only [YC, mem_cons, List.not_mem_nil, or_false, or_self] at hq
    rw [hq]; exact h0
   ·have := hb q hq; have := (h p hp).2; omega
def Zar (st : Za) (many : Int) (i : Nat) (p : PtrD) : Bool := bif p.hole then true else XB st p && ((p.aq == 0) && (decide (p.aj ≤ st.ar) && decide ((i : Int) < many)))
def XT (st : Za) (many : Int) : Nat → List PtrD → Bool
 | _, [] => true
 | i, p :: r => Zar st many i p && XT st many (i + 1) r
theorem ZdH {p : PtrD} (h : p.hole = true) : p.aq = 0 := by rw [YI h]; rfl
theorem ZdI {p : PtrD} (h : p.hole = true) : p.aj = 0 := by rw [YI h]; rfl
theorem ZlW {st : Za} {many : Int} {i : Nat} {p : PtrD} (h : p.aj ≤ st.ar) : Zar st many i p = Zg8 st many i p := by
 unfold Zar Zg8
 cases hh : p.hole with
 | true => show true = (p.aq == 0); rw [ZdH hh]; rfl
 | false => rw [decide_eq_true h, Bool.true_and]; rfl
theorem ZdJ {st : Za} {many : Int} : ∀ {i : Nat} {l : List PtrD}, (∀ p ∈ l, p.aj ≤ st.ar) → XT st many i l = QW st many i l
 | _, [], _ => rfl
 | i, p :: r, h => by
  show (_ && _) = (_ && _);rw [ZlW (h p (mem_cons_self ..)), ZdJ fun q hq => h q (mem_cons_of_mem _ hq)]
def ZaP (t : Zd) : Bool := inB t.ah 0 16 && ((t.aw == (depthN t.ah : Int)) && t.af.ok)
noncomputable def okS (st : Za) (t : Zd) : Bool := ZaP t && match downL (kidsS st) (depthN t.ah) [t.af] with | none => false | some l => XT st t.ah 0 l
theorem Zdc {st : Za} {t : Zd} (h : ZaP t = false) : okS st t = false := by unfold okS; rw [h]; rfl
theorem ZdK {st : Za} {t : Zd} (h : downL (kidsS st) (depthN t.ah) [t.af] = none) : okS st t = false := by unfold okS; rw [h, Bool.and_false]
theorem ZaQ {st : Za} {t : Zd} {l : List PtrD} (h0 : ZaP t = true) (h : downL (kidsS st) (depthN t.ah) [t.af] = some l) : okS st t = XT st t.ah 0 l := by unfold okS; rw [h0, h]; rfl
theorem ZlX {st : Za} {t : Zd} (h0 : 0 ≤ st.ar) : okS st t = VF st t := by
 unfold VF
 cases ht : ZaP t with
 | false =>
  rw [Zdc ht, VG (by unfold topB; unfold ZaP at ht; rw [← Bool.and_assoc, ← Bool.and_assoc]; rw [← Bool.and_assoc] at ht; rw [ht]; rfl)]; rfl
 | true =>
  have hok : t.af.ok = true := by unfold ZaP at ht; simp only [Bool.and_eq_true] at ht; exact ht.2.2
  by_cases hb : t.af.aj ≤ st.ar
  ·have htop : topB st t = true := by unfold topB; unfold ZaP at ht; rw [decide_eq_true hb, Bool.and_true]; exact ht
   obtain ⟨e, hy⟩ := U2 (st := st) (n := depthN t.ah) (l := [t.af]) (fun p hp => by rw [mem_singleton.1 hp]; exact ⟨hok, hb⟩) h0
   cases hd : downL (kids st) (depthN t.ah) [t.af] with
   | none => rw [ZdK (e.trans hd), Zbw hd]; rfl
   | some l =>
    rw [ZaQ ht (e.trans hd), ZdJ fun p hp => (hy l hd p hp).2]
    cases hl : QW st t.ah 0 l with
    | true => rw [VH htop hd hl]; rfl
    | false => rw [ZcO hd hl]; rfl
  ·have htop : topB st t = false := by unfold topB; rw [decide_eq_false hb]; simp
   rw [VG htop];have hh : t.af.hole = false := by
    cases hh : t.af.hole with
    | false => rfl
    | true => have := ZdI hh; omega
   cases hd : depthN t.ah with
   | zero =>
    rw [ZaQ (l := [t.af]) ht (by rw [hd]; rfl)];show (Zar st t.ah 0 t.af && true) = false;unfold Zar;rw [hh, decide_eq_false hb]; simp
   | succ n =>
    rw [ZdK (by rw [hd]; exact JJ (VE (VD hh (by rw [decide_eq_false hb]; simp))))]; rfl
noncomputable def allL (st : Za) : Nat → PtrD → List PtrD
 | 0, p => bif p.hole then [] else [p]
 | n + 1, p => bif p.hole then [] else p :: ((kids st p ((n + 1 : Nat) : Int)).getD []).flatMap (allL st n)
theorem ZT {st : Za} {p : PtrD} (h : p.hole = true) : ∀ n, allL st n p = []
 | 0 => by unfold allL; rw [h]; rfl
 | n + 1 => by unfold allL; rw [h]; rfl
theorem Qn {st : Za} {p : PtrD} (h : p.hole = false) : allL st 0 p = [p] := by unfold allL; rw [h]; rfl
theorem YP {st : Za} {p : PtrD} {n : Nat} {l : List PtrD} (h : p.hole = false) (hk : kids st p ((n + 1 : Nat) : Int) = some l) : allL st (n + 1) p = p :: l.flatMap (allL st n) := by
 show (bif p.hole then [] else p :: ((kids st p ((n + 1 : Nat) : Int)).getD []).flatMap (allL st n)) = _;rw [h, hk]; rfl
def Wf (st : Za) : Nat → PtrD → Prop
 | 0, p => p.ok = true ∧ p.aj ≤ st.ar ∧ p.aq = 0 ∧ XB st p = true
 | n + 1, p => p.ok = true ∧ p.aj ≤ st.ar ∧ ∃ l, kids st p ((n + 1 : Nat) : Int) = some l ∧ ∀ k ∈ l, Wf st n k
theorem Wf.ok {st : Za} : ∀ {n : Nat} {p : PtrD}, Wf st n p → p.ok = true ∧ p.aj ≤ st.ar
 | 0, _, h => ⟨h.1, h.2.1⟩
 | _ + 1, _, h => ⟨h.1, h.2.1⟩
theorem Wf.level {st : Za} : ∀ {n : Nat} {p : PtrD}, Wf st n p → p.hole = false → p.aq = (n : Int)
 | 0, _, h, _ => h.2.2.1
 | n + 1, p, ⟨_, _, l, hk, _⟩, hh => by
  rcases (QE hk).2.2 with ⟨e, _⟩ | ⟨_, e, _⟩
  ·rw [hh] at e; cases e
  ·exact e
theorem Wf.zero {st : Za} (h0 : 0 ≤ st.ar) : ∀ n, Wf st n PtrD.zero
 | 0 => ⟨rfl, h0, rfl, rfl⟩
 | n + 1 => ⟨rfl, h0, YC, Jo rfl, fun k hk => by
  simp only [YC, mem_cons, List.not_mem_nil, or_false, or_self] at hk;rw [hk]; exact Wf.zero h0 n⟩
theorem Zf4 : digitVal 58 = none := by decide
theorem Zjm {s : ByteArray} {n k : Nat} (h : l1S s n k) (h0 : k ≠ 0) (hc : s.data.toList[k]? = some 58) : k < s.size ∧ QB (s.extract 0 k) = some n := by
 have hz := Zf s;have hk : k < s.data.toList.length := (List.getElem?_eq_some_iff.1 hc).1;refine ⟨by omega, ?_⟩;rcases h with ⟨h1, h2, h3, _, h5⟩ | ⟨rfl, rfl, _, b, d, h4, h6⟩
 ·have hsz : (s.extract 0 k).size = k := by rw [size_extract]; omega
  have hl : (s.extract 0 k).data.toList = s.data.toList.take k := by rw [Z8]; simp
  refine Zji (k := k) (.inl ⟨h1, by omega, by rw [hl, List.take_take, Nat.min_self]; exact h3, .inl hsz.symm, fun hx => h5 ⟨hx.1, ?_⟩⟩) h0 hsz.symm;rw [hl] at hx
  match hx2 : s.data.toList, hk with
  | a :: r, _ =>
   rw [hx2] at hx
   match k, h0 with
   | k + 1, _ => exact hx.2
 ·rw [hc] at h4
  obtain rfl := Option.some.inj h4;rw [Zf4] at h6; cases h6
theorem Zf5 {l : List UInt8} {b : UInt8} (hb : b ∈ l) (hd : digitVal b = none) : ∀ acc, decFrom acc l = none := by
 induction l with
 | nil => cases hb
 | cons c r ih =>
  intro acc;unfold decFrom;rcases mem_cons.1 hb with rfl | hb
  ·rw [hd]
  ·cases digitVal c with
   | none => rfl
   | some d => exact ih hb _
theorem Zno {s : ByteArray} {n k m : Nat} {t : List UInt8} (h : l1S s n k) (hm : m ≤ 999999999) (hs : s.data.toList = (Zw m).data.toList ++ 58 :: t) : k = (Zw m).size ∧ n = m ∧ s.data.toList[k]? = some 58 := by
 have hz := Zf s;have hd9 := JD hm;have hdp := Zdn m;have hdz := Zf (Zw m);have hall := QQ m;rw [← Yd] at hall;have hlen : s.data.toList.length = (Zw m).data.toList.length + (t.length + 1) := by rw [hs, length_append, length_cons]
 have hcol : s.data.toList[(Zw m).size]? = some 58 := by rw [hs, hdz, List.getElem?_append_right (Nat.le_refl _), Nat.sub_self]; rfl
 have hin : ∀ i, i < (Zw m).size → ∃ b d, s.data.toList[i]? = some b ∧ digitVal b = some d := fun i hi => by
  have hi2 : i < (Zw m).data.toList.length := by omega
  obtain ⟨d, hd⟩ := hall _ (List.getElem_mem hi2);exact ⟨_, d, by rw [hs, List.getElem?_append_left hi2, List.getElem?_eq_getElem hi2], hd⟩
 have hk : k = (Zw m).size := by
  rcases h with ⟨h1, h2, h3, h4, _⟩ | ⟨rfl, rfl, h3, b, d, h4, h6⟩
  ·rcases Nat.lt_trichotomy k (Zw m).size with hlt | he | hgt
   ·obtain ⟨b, d, hb, hd⟩ := hin k hlt
    rcases h4 with h4 | h4 | ⟨c, h4, h6⟩
    ·omega
    ·omega
    ·rw [hb] at h4
     obtain rfl := Option.some.inj h4;rw [hd] at h6; cases h6
   ·exact he
   ·have hmem : (58 : UInt8) ∈ s.data.toList.take k := by
     refine List.mem_of_getElem? (i := (Zw m).size) ?_;rw [List.getElem?_take, if_pos hgt]; exact hcol
    rw [Zf5 hmem Zf4] at h3; cases h3
  ·rcases Nat.lt_or_ge m 10 with hlt | hge
   ·have h1 : (Zw m).size = 1 := by rw [hdz, Yd, decDigits_one hlt]; rfl
    rw [h1] at hcol;rw [hcol] at h4;obtain rfl := Option.some.inj h4;rw [Zf4] at h6; cases h6
   ·obtain ⟨e, he, h1, h9⟩ := ZcJ m hge
    rw [← Yd] at he;have : s.data.toList.head? = (Zw m).data.toList.head? := by
     rw [hs]
     match hq : (Zw m).data.toList, hdp, hdz with
     | a :: r, _, _ => rfl
     | [], hp, hq2 => have hz0 : ([] : List UInt8).length = 0 := rfl; omega
    rw [this, he] at h3;have hv := Option.some.inj h3;have : (UInt8.ofNat (48 + e)).toNat = 48 + e := by rw [UInt8.toNat_ofNat']; omega
    rw [hv] at this;have : (48 : UInt8).toNat = 48 := rfl
    omega
 refine ⟨hk, ?_, by rw [hk]; exact hcol⟩;have hnum := Zjm h (by omega) (by rw [hk]; exact hcol);have he : s.extract 0 k = Zw m := Yo (by rw [Z8, hs, hk, hdz]; simp);rw [he, Vu hm] at hnum;exact (Option.some.inj hnum.2).symm
theorem XU {s : ByteArray} (i : Nat) : (s.extract i s.size).data.toList = s.data.toList.drop i := by
 rw [Z8, List.take_of_length_le (by rw [List.length_drop, ← Zf]; exact Nat.le_refl _)]
theorem ZlY {s : ByteArray} {xs : List ByteArray} {p k n : Nat} (h : J0 s xs (s.extract p s.size)) (hl : l1S (s.extract p s.size) n k) (h0 : k ≠ 0) (hk : p + k < s.size) (hc : s.get! (p + k) = 58) (hn : n ≤ s.size - (p + k + 1)) : J0 s (xs ++ [s.extract (p + k + 1) (p + k + 1 + n)]) (s.extract (p + k + 1 + n) s.size) := by
 have hz := Zf s;have hcol : (s.extract p s.size).data.toList[k]? = some 58 := by rw [XU, List.getElem?_drop, QM hk, hc]
 obtain ⟨hk2, hnum⟩ := Zjm hl h0 hcol;have hcut : (s.extract p s.size).data.toList = ((s.extract p s.size).extract 0 k).data.toList ++ 58 :: (s.extract (p + k + 1) s.size).data.toList := by
  rw [Z8 (a := s.extract p s.size), XU, XU, List.drop_zero, Nat.sub_zero];have e : (s.data.toList.drop p).drop k = 58 :: s.data.toList.drop (p + k + 1) := by
   rw [List.drop_drop];have hlt : p + k < s.data.toList.length := by omega
   rw [List.drop_eq_getElem_cons hlt];have := QM hk;rw [List.getElem?_eq_getElem hlt] at this;rw [Option.some.inj this, hc]
  rw [← e, List.take_append_drop]
 have hsz : (s.extract (p + k + 1) s.size).size = s.size - (p + k + 1) := by rw [size_extract]; omega
 have := h.step hcut hnum (by omega);have e1 : (s.extract (p + k + 1) s.size).extract 0 n = s.extract (p + k + 1) (p + k + 1 + n) := Yo (by
  rw [Z8, XU, Z8, List.drop_zero]
  congr 1; omega)
 have e2 : (s.extract (p + k + 1) s.size).extract n (s.extract (p + k + 1) s.size).size = s.extract (p + k + 1 + n) s.size := Yo (by
  rw [XU, XU, XU, List.drop_drop])
 rw [e1, e2] at this;exact this
theorem Zf6 {s : ByteArray} {xs l : List ByteArray} {p k n : Nat} (h : J0 s xs (s.extract p s.size)) (hl : l1S (s.extract p s.size) n k) (hr : IsRec s l) (hs : s.size ≤ 2048) (hp : p < s.size) : k ≠ 0 ∧ p + k < s.size ∧ s.get! (p + k) = 58 ∧ n ≤ s.size - (p + k + 1) := by
 have hz := Zf s;have hsz : (s.extract p s.size).size = s.size - p := by rw [size_extract]; omega
 have hne : ((s.extract p s.size).toList == (⟨#[]⟩ : ByteArray).toList) = false := by
  cases hq : ((s.extract p s.size).toList == (⟨#[]⟩ : ByteArray).toList) with
  | false => rfl
  | true =>
   have := ZS hq;rw [this] at hsz;have : (⟨#[]⟩ : ByteArray).size = 0 := rfl
   omega
 obtain ⟨y, ws, e1, e2, e3, e4⟩ := h.go hr.is hs hr.many hne;have hy := (XR e3).1;obtain ⟨k1, k2, k3⟩ := Zno hl hy e2;have hp1 := Zdn y.size;have hlen := congrArg length e2;rw [length_append, length_cons, length_append, ← Zf, ← Zf, ← Zf, hsz] at hlen;have hkl : p + k < s.size := by omega
 refine ⟨by omega, hkl, ?_, by omega⟩;rw [XU, List.getElem?_drop, QM hkl] at k3;exact Option.some.inj k3
theorem Zbx {s : ByteArray} {xs : List ByteArray} {p : Nat} (h : J0 s xs (s.extract p s.size)) (hp : ¬ p < s.size) : ZU xs = s := by
 refine h.done ?_;have : s.extract p s.size = (⟨#[]⟩ : ByteArray) := Yo (by rw [XU, List.drop_eq_nil_of_le (by rw [← Zf]; omega)]);rw [this]; exact beq_self_eq_true _
theorem Zby {m n : Int} {y : ByteArray} (h : 0 ≤ m ∧ m ≤ 999999999 ∧ ZF m = y) (k : 0 ≤ n ∧ n ≤ 999999999 ∧ ZF n = y) : m = n := by
 have h1 := Yw ⟨h.1, h.2.1⟩;have h2 := Yw ⟨k.1, k.2.1⟩;rw [h.2.2] at h1;rw [k.2.2, h1] at h2;have := Option.some.inj h2
 omega
theorem ZlZ (y : ByteArray) (ys : List ByteArray) : (ZU (y :: ys)).size = (Zw y.size).size + 1 + y.size + (ZU ys).size := by
 have h := congrArg length (Xd y ys);rw [← Zf, length_append, length_cons, length_append, ← Zf, ← Zf, ← Zf] at h
 omega
theorem Um {y : ByteArray} {ys : List ByteArray} {B : Nat} (h : y.size ≤ 100) (hb : (ZU ys).size ≤ B) : (ZU (y :: ys)).size ≤ B + 110 := by
 rw [ZlZ];have := JD (n := y.size) (by omega)
 omega
structure Zc where
  ak : Int
  aA : Int
  av : Int
  au : Zd
abbrev nPL (k l s : Int) (t : Zd) : List Value := [.int .i64 k, .int .i64 l, .int .i64 s, .int .i64 t.af.aB, .int .i64 t.af.aj, .int .i64 t.af.av, .int .i64 t.af.aC, .int .i64 t.af.aq, .int .i64 t.aw, .int .i64 t.ah]
abbrev nPV (k l s : Int) (t : Zd) : Value := .agg #[.int .i64 k, .int .i64 l, .int .i64 s, .int .i64 t.af.aB, .int .i64 t.af.aj, .int .i64 t.af.av, .int .i64 t.af.aC, .int .i64 t.af.aq, .int .i64 t.aw, .int .i64 t.ah]
abbrev nL (n : Zc) : List Value := [.int .i64 n.ak, .int .i64 n.aA, .int .i64 n.av, .int .i64 n.au.af.aB, .int .i64 n.au.af.aj, .int .i64 n.au.af.av, .int .i64 n.au.af.aC, .int .i64 n.au.af.aq, .int .i64 n.au.aw, .int .i64 n.au.ah]
abbrev nV (n : Zc) : Value := .agg #[.int .i64 n.ak, .int .i64 n.aA, .int .i64 n.av, .int .i64 n.au.af.aB, .int .i64 n.au.af.aj, .int .i64 n.au.af.av, .int .i64 n.au.af.aC, .int .i64 n.au.af.aq, .int .i64 n.au.aw, .int .i64 n.au.ah]
def Yr (kind : Int) : Int := if kind = 1 then 12 else if kind = 2 then 128 else 0
theorem Zio : Yr 1 = 12 := rfl
theorem Zbz : Yr 2 = 128 := rfl
theorem ZdL {k : Int} (h1 : k ≠ 1) (h2 : k ≠ 2) : Yr k = 0 := by unfold Yr; rw [if_neg h1, if_neg h2]
def Yz (kind size : Int) : Int := if Yr kind = 0 ∨ ¬ (0 ≤ size ∧ size ≤ 16 * Yr kind) then -1 else (size + Yr kind - 1) / Yr kind
theorem ZdM {k s : Int} (h : Yr k = 0) : Yz k s = -1 := if_pos (.inl h)
theorem ZcP {k s : Int} (h : ¬ (0 ≤ s ∧ s ≤ 16 * Yr k)) : Yz k s = -1 := if_pos (.inr h)
theorem ZaR {k s : Int} (h : Yr k ≠ 0) (h1 : 0 ≤ s) (h2 : s ≤ 16 * Yr k) : Yz k s = (s + Yr k - 1) / Yr k := if_neg fun e => e.elim h fun e => e ⟨h1, h2⟩
structure ZaS (n : Zc) : Prop where
  many : 0 ≤ Yz n.ak n.av
  links : 1 ≤ n.aA ∧ n.aA ≤ if n.ak = 2 then 1 else 9
  tmany : n.au.ah = Yz n.ak n.av
  depth : n.au.aw = ((depthN (Yz n.ak n.av) : Nat) : Int)
  root : n.au.af.ok = true
  level : n.au.af.hole = true ∨ n.au.af.aq = n.au.aw
instance (n : Zc) : Decidable (ZaS n) := decidable_of_iff (0 ≤ Yz n.ak n.av ∧ (1 ≤ n.aA ∧ n.aA ≤ if n.ak = 2 then 1 else 9) ∧ n.au.ah = Yz n.ak n.av ∧ n.au.aw = ((depthN (Yz n.ak n.av) : Nat) : Int) ∧ n.au.af.ok = true ∧ (n.au.af.hole = true ∨ n.au.af.aq = n.au.aw)) ⟨fun ⟨a, b, c, d, e, f⟩ => ⟨a, b, c, d, e, f⟩, fun ⟨a, b, c, d, e, f⟩ => ⟨a, b, c, d, e, f⟩⟩
def Zc.ok (n : Zc) : Bool := decide (ZaS n)
theorem Zc.ok_yes {n : Zc} (h : ZaS n) : n.ok = true := decide_eq_true h
theorem Zc.ok_no {n : Zc} (h : ¬ ZaS n) : n.ok = false := decide_eq_false h
theorem Zc.ok_is {n : Zc} (h : n.ok = true) : ZaS n := of_decide_eq_true h
structure Zoi (n : Zc) : Prop where
  kind : n.ak = 1 ∨ n.ak = 2
  links : 1 ≤ n.aA ∧ n.aA ≤ 9
  size : 0 ≤ n.av ∧ n.av ≤ 16 * Yr n.ak
  is : Yz n.ak n.av = (n.av + Yr n.ak - 1) / Yr n.ak
  many : 0 ≤ n.au.ah ∧ n.au.ah ≤ 16
  depth : 0 ≤ n.au.aw ∧ n.au.aw ≤ 2
theorem ZaS.small {n : Zc} (h : ZaS n) : Zoi n := by
 have hk : n.ak = 1 ∨ n.ak = 2 := by
  by_cases h1 : n.ak = 1
  ·exact .inl h1
  ·by_cases h2 : n.ak = 2
   ·exact .inr h2
   ·have := h.many
    rw [ZdM (ZdL h1 h2)] at this
    omega
 have he : 12 ≤ Yr n.ak ∧ Yr n.ak ≤ 128 := by rcases hk with e | e <;> rw [e] <;> decide
 have hs : 0 ≤ n.av ∧ n.av ≤ 16 * Yr n.ak := by
  by_cases hs : 0 ≤ n.av ∧ n.av ≤ 16 * Yr n.ak
  ·exact hs
  ·have := h.many
   rw [ZcP hs] at this
   omega
 have hp := ZaR (k := n.ak) (by omega) hs.1 hs.2;have hl := h.links;have hm : Yz n.ak n.av ≤ 16 := by
  rw [hp];have : (n.av + Yr n.ak - 1) / Yr n.ak < 17 := Int.ediv_lt_of_lt_mul (by omega) (by omega)
  omega
 have hd := YK (Yz n.ak n.av);have h1 := h.many;have h2 := h.tmany;have h3 := h.depth;refine ⟨hk, ⟨hl.1, ?_⟩, hs, hp, by omega, by omega⟩;have := hl.2
 split at this <;> omega
def Zl0 : ByteArray := ⟨#[101, 110, 100]⟩
def Ua (n : Zc) : List ByteArray := [ZF n.ak, ZF n.aA, ZF n.av, ZV n.au.af, ZF n.au.aw, ZF n.au.ah, Zl0]
def Yp (n : Zc) : ByteArray := bif n.ok then (ZX (Ua n)).1 else ByteArray.empty
theorem JK {n : Zc} (h : n.ok = false) : Yp n = ByteArray.empty := by unfold Yp; rw [h]; rfl
theorem Ze9 {n : Zc} (h : n.ok = true) : Yp n = (ZX (Ua n)).1 := by unfold Yp; rw [h]; rfl
theorem Zg9 (n : Zc) : (ZU (Ua n)).size ≤ 1000 := by
 refine Nat.le_trans (Um (Nat.le_trans (Ym _) (by decide)) (Um (Nat.le_trans (Ym _) (by decide)) (Um (Nat.le_trans (Ym _) (by decide)) (Um (Nat.le_trans (V9 _) (by decide)) (Um (Nat.le_trans (Ym _) (by decide)) (Um (Nat.le_trans (Ym _) (by decide)) (Um (y := Zl0) (by decide) (Nat.le_refl (ZU []).size)))))))) ?_;have h0 : (ZU []).size = 0 := rfl
 omega
theorem X4 {n : Zc} (h : n.ok = true) : IsRec (Yp n) (Ua n) := by
 rw [Ze9 h, Yy (by simp only [Ua, length_cons, length_nil]; omega) (Nat.le_trans (Zg9 n) (by decide))];exact ⟨rfl, by simp only [Ua, length_cons, length_nil]; omega⟩
theorem U3 (n : Zc) : (Yp n).size ≤ 1000 := by
 cases h : n.ok with
 | false => rw [JK h]; exact Nat.zero_le _
 | true => rw [← (X4 h).is]; exact Zg9 n
theorem Zj7 {m n : Zc} (hm : m.ok = true) (hn : n.ok = true) (h : Yp m = Yp n) : m = n := by
 have h1 := X4 hm;have h2 := X4 hn;rw [h] at h1;have e := h1.one h2;simp only [Ua, List.cons.injEq, and_true] at e;obtain ⟨e1, e2, e3, e4, e5, e6⟩ := e;have a := (Zc.ok_is hm);have b := (Zc.ok_is hn);have sa := a.small;have sb := b.small;have ea : Yr m.ak ≤ 128 := by rcases sa.kind with e | e <;> rw [e] <;> decide
 have eb : Yr n.ak ≤ 128 := by rcases sb.kind with e | e <;> rw [e] <;> decide
 have k1 := sa.links; have k2 := sa.size; have k3 := sa.many; have k4 := sa.depth; have k5 := sa.kind;have l1 := sb.links; have l2 := sb.size; have l3 := sb.many; have l4 := sb.depth; have l5 := sb.kind;have j1 : m.ak = n.ak := Zby (y := ZF n.ak) ⟨by omega, by omega, e1⟩ ⟨by omega, by omega, rfl⟩;have j2 : m.aA = n.aA := Zby (y := ZF n.aA) ⟨by omega, by omega, e2⟩ ⟨by omega, by omega, rfl⟩;have j3 : m.av = n.av := Zby (y := ZF n.av) ⟨by omega, by omega, e3⟩ ⟨by omega, by omega, rfl⟩;have j4 := ZdD a.root b.root e4;have j5 : m.au.aw = n.au.aw := Zby (y := ZF n.au.aw) ⟨by omega, by omega, e5⟩ ⟨by omega, by omega, rfl⟩;have j6 : m.au.ah = n.au.ah := Zby (y := ZF n.au.ah) ⟨by omega, by omega, e6⟩ ⟨by omega, by omega, rfl⟩;obtain ⟨_, _, _, ⟨_, _, _⟩⟩ := m;obtain ⟨_, _, _, ⟨_, _, _⟩⟩ := n;simp only at j1 j2 j3 j4 j5 j6;rw [j1, j2, j3, j4, j5, j6]
open Classical in
noncomputable def JL (s : ByteArray) : Option Zc := if h : ∃ n : Zc, n.ok = true ∧ Yp n = s then some h.choose else none
theorem Zac {s : ByteArray} {n : Zc} (hn : n.ok = true) (h : Yp n = s) : JL s = some n := by
 have he : ∃ n : Zc, n.ok = true ∧ Yp n = s := ⟨n, hn, h⟩;unfold JL;rw [dif_pos he];have hc := he.choose_spec;rw [Zj7 hc.1 hn (hc.2.trans h.symm)]
theorem Zha {s : ByteArray} (h : ∀ n : Zc, n.ok = true → Yp n = s → False) : JL s = none := by
 unfold JL;rw [dif_neg fun ⟨n, hn, hs⟩ => h n hn hs]
theorem ZdN {s : ByteArray} {n : Zc} (h : JL s = some n) : n.ok = true ∧ Yp n = s := by
 unfold JL at h
 split at h
 ·next he => rw [← Option.some.inj h]; exact he.choose_spec
 ·cases h
theorem Zad {n : Zc} (h : n.ok = true) : Zoi n ∧ QB (ZF n.ak) = some n.ak.toNat ∧ QB (ZF n.aA) = some n.aA.toNat ∧ QB (ZF n.av) = some n.av.toNat ∧ QB (ZF n.au.aw) = some n.au.aw.toNat ∧ QB (ZF n.au.ah) = some n.au.ah.toNat := by
 have sa := (Zc.ok_is h).small;have ea : Yr n.ak ≤ 128 := by rcases sa.kind with e | e <;> rw [e] <;> decide
 have k1 := sa.links; have k2 := sa.size; have k3 := sa.many; have k4 := sa.depth; have k5 := sa.kind;exact ⟨sa, Yw (by omega), Yw (by omega), Yw (by omega), Yw (by omega), Yw (by omega)⟩
def Zq.give (s : Zq) (a : Nat) : Zq := { ag := s.ag.set a (s.ag.getD a 0 - 1), am := if s.ag.getD a 0 - 1 = 0 then s.am.set a 0 else s.am }
theorem Zq.give_refs (s : Zq) (a : Nat) : (s.give a).ag.length = s.ag.length := by simp [Zq.give]
theorem Zq.give_last (s : Zq) (a : Nat) : (s.give a).am.length = s.am.length := by unfold Zq.give; dsimp only; split <;> simp
def Yk (rows : List ByteArray) (s : Zq) (a : Nat) : List ByteArray := if s.ag.getD a 0 - 1 = 0 then rows.set a ByteArray.empty else rows
theorem Xq (rows : List ByteArray) (s : Zq) (a : Nat) : (Yk rows s a).length = rows.length := by unfold Yk; split <;> simp
def Un (x : List ByteArray × Zq) (p : PtrD) : List ByteArray × Zq := (Yk x.1 x.2 p.aB.toNat, x.2.give p.aB.toNat)
def Yn (x : List ByteArray × Zq) (ps : List PtrD) : List ByteArray × Zq := ps.foldl Un x
theorem Zf7 (x : List ByteArray × Zq) (ps : List PtrD) (p : PtrD) : Yn x (ps ++ [p]) = Un (Yn x ps) p := by simp [Yn, List.foldl_append]
theorem Zhb (x : List ByteArray × Zq) (ps : List PtrD) : (Yn x ps).1.length = x.1.length ∧ (Yn x ps).2.ag.length = x.2.ag.length ∧ (Yn x ps).2.am.length = x.2.am.length := by
 unfold Yn
 induction ps generalizing x with
 | nil => exact ⟨rfl, rfl, rfl⟩
 | cons p r ih =>
  obtain ⟨h1, h2, h3⟩ := ih (Un x p);exact ⟨h1.trans (Xq _ _ _), h2.trans (Zq.give_refs _ _), h3.trans (Zq.give_last _ _)⟩
theorem Zj8 (s : Zq) (a i : Nat) (hi : i < s.ag.length) : (s.give a).ag.getD i 0 = s.ag.getD i 0 - if a = i then 1 else 0 := by
 unfold Zq.give;simp only [List.getD, List.getElem?_set]
 by_cases h : a = i
 ·subst h
  simp [hi]
 ·simp [h]
theorem Zf8 (x : List ByteArray × Zq) (ps : List PtrD) (hp : ∀ p ∈ ps, 0 ≤ p.aB) (i : Nat) (hi : i < x.2.ag.length) : (Yn x ps).2.ag.getD i 0 = x.2.ag.getD i 0 - (cnt ps i : Int) := by
 unfold Yn
 induction ps generalizing x with
 | nil => simp [cnt]
 | cons p r ih =>
  have h1 := ih (Un x p) (fun q hq => hp q (mem_cons_of_mem _ hq)) (by rw [show (Un x p).2.ag.length = x.2.ag.length from Zq.give_refs _ _]; exact hi);rw [List.foldl_cons, h1, show (Un x p).2 = x.2.give p.aB.toNat from rfl, Zj8 _ _ _ hi];have h2 : cnt (p :: r) i = (if p.aB = (i : Int) then 1 else 0) + cnt r i := by
   have := Zj [p] r i;rw [List.singleton_append] at this;rw [this]
   congr 1
   by_cases h : p.aB = (i : Int) <;> simp [cnt, h]
  have h0 := hp p mem_cons_self;rw [h2]
  by_cases h : p.aB = (i : Int)
  ·rw [if_pos h, if_pos (by omega)]; push_cast; omega
  ·rw [if_neg h, if_neg (by omega)]; push_cast; omega
def Za.nextOf (st : Za) : Za := { ac := (Yn (st.ac, st.aa) st.ai).1, aa := (Yn (st.ac, st.aa) st.ai).2, ar := st.ar + 1, ai := [], ax := st.ax, al := st.al, az := st.az }
end Go.Proofs.YthnbgnjpbmnelaaGreatDoor
