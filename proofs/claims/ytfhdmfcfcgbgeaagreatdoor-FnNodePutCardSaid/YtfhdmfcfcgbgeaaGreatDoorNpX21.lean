/- A part of the proof in YtfhdmfcfcgbgeaaGreatDoorNpX34. -/
import Derived.Shelf.Strconv.Clone
import Derived.Shelf.Strings.Cut
import Derived.Test.YtfhdmfcfcgbgeaaGreatDoorNpX20
namespace Go.Proofs.YtfhdmfcfcgbgeaaGreatDoor
open Go.Proofs.Tryz
open _root_.ByteArray (size_extract)
open List (length length_append length_cons length_nil length_take map_cons mem_append mem_append_left mem_append_right mem_cons mem_cons_of_mem mem_cons_self mem_singleton)
set_option linter.unusedVariables false
set_option linter.unusedSimpArgs false
set_option maxHeartbeats 1000000
set_option maxRecDepth 100000
open Go.Shelf
def Zir : Go.Shelf.Ren := ⟨fun | 145 => 56 | 217 => 140 | 219 => 104 | 220 => 78 | 224 => 142 | 225 => 141 | 266 => 172 | 267 => 143 | 314 => 173 | n => n, fun | 3 => 3 | 4 => 4 | 5 => 5 | 9 => 9 | 46 => 175 | 51 => 199 | 59 => 87 | 146 => 203 | n => n, fun | 1 => 0 | n => n⟩
theorem Zow : Go.Proofs.Lays.n145 prog Zir := {
 mixed := by kernel_rfl
 f145 := Tryz.func56.trans (congrArg some (by kernel_rfl))
 f217 := Tryz.func140.trans (congrArg some (by kernel_rfl))
 f219 := Tryz.func104.trans (congrArg some (by kernel_rfl))
 f220 := Tryz.func78.trans (congrArg some (by kernel_rfl))
 f224 := Tryz.func142.trans (congrArg some (by kernel_rfl))
 f225 := Tryz.func141.trans (congrArg some (by kernel_rfl))
 f266 := Tryz.func172.trans (congrArg some (by kernel_rfl))
 f267 := Tryz.func143.trans (congrArg some (by kernel_rfl))
 f314 := Tryz.func173.trans (congrArg some (by kernel_rfl))
 t3 := Tryz.underlying3
 a3 := Tryz.isAgg3
 z3 := Tryz.sizeOf3
 v3 := Tryz.zeroValue3
 t4 := Tryz.underlying4
 a4 := Tryz.isAgg4
 z4 := Tryz.sizeOf4
 v4 := Tryz.zeroValue4
 t5 := Tryz.underlying5
 a5 := Tryz.isAgg5
 z5 := Tryz.sizeOf5
 v5 := Tryz.zeroValue5
 t9 := Tryz.underlying9
 a9 := Tryz.isAgg9
 z9 := Tryz.sizeOf9
 v9 := Tryz.zeroValue9
 t46 := Tryz.underlying175
 a46 := Tryz.isAgg175
 z46 := Tryz.sizeOf175
 v46 := Tryz.zeroValue175
 t51 := Tryz.underlying199
 a51 := Tryz.isAgg199
 z51 := Tryz.sizeOf199
 v51 := Tryz.zeroValue199
 t59 := Tryz.underlying87
 a59 := Tryz.isAgg87
 z59 := Tryz.sizeOf87
 v59 := Tryz.zeroValue87
 t146 := Tryz.underlying203
 a146 := Tryz.isAgg203
 z146 := Tryz.sizeOf203
 v146 := Tryz.zeroValue203
 g1 := by kernel_rfl }
def Zf6 : Go.Shelf.Ren := ⟨fun | 316 => 79 | n => n, fun | 0 => 0 | 3 => 3 | 4 => 4 | 5 => 5 | 9 => 9 | 37 => 22 | 127 => 109 | n => n, fun | n => n⟩
theorem ZlS : Go.Proofs.LaysM.n316 prog Zf6 := {
 mixed := by kernel_rfl
 f316 := Tryz.func79.trans (congrArg some (by kernel_rfl))
 t0 := Tryz.underlying0
 a0 := Tryz.isAgg0
 z0 := Tryz.sizeOf0
 v0 := Tryz.zeroValue0
 t3 := Tryz.underlying3
 a3 := Tryz.isAgg3
 z3 := Tryz.sizeOf3
 v3 := Tryz.zeroValue3
 t4 := Tryz.underlying4
 a4 := Tryz.isAgg4
 z4 := Tryz.sizeOf4
 v4 := Tryz.zeroValue4
 t9 := Tryz.underlying9
 a9 := Tryz.isAgg9
 z9 := Tryz.sizeOf9
 v9 := Tryz.zeroValue9
 t37 := Tryz.underlying22
 a37 := Tryz.isAgg22
 z37 := Tryz.sizeOf22
 v37 := Tryz.zeroValue22
 t127 := Tryz.underlying109
 a127 := Tryz.isAgg109
 z127 := Tryz.sizeOf109
 v127 := Tryz.zeroValue109
 t5 := Tryz.underlying5
 a5 := Tryz.isAgg5
 z5 := Tryz.sizeOf5
 v5 := Tryz.zeroValue5
 i0 := by kernel_rfl
 i3 := by kernel_rfl
 i4 := by kernel_rfl
 i5 := by kernel_rfl
 i9 := by kernel_rfl
 i37 := by kernel_rfl
 i127 := by kernel_rfl }
open Go.RowKit
theorem Znk (s : ByteArray) (w : World) (hM : Zcm w) (hs : s.size ≤ 4294967280) : Calls prog 56 #[.string s, .string ⟨#[58]⟩] w fun e w' => ((58 : UInt8) ∉ s.data.toList ∧ (∃ b a : ByteArray, e = .returned (.tuple #[.string b, .string a, .bool false])) ∧ Below w.heap.size w w') ∨ (∃ num tail : ByteArray, s.data.toList = num.data.toList ++ 58 :: tail.data.toList ∧ (58 : UInt8) ∉ num.data.toList ∧ e = .returned (.tuple #[.string num, .string tail, .bool true]) ∧ Below w.heap.size w w') := by
 obtain ⟨m, hm⟩ := hM;refine (Any.strings_Cut Zow s ⟨#[58]⟩ m w (by omega) hm).mono ?_;rintro e w' ⟨rfl, n, rfl⟩;rcases Zkc 58 s.data.toList with ⟨h1, h2⟩ | ⟨d, t, h1, h2, h3⟩
 ·refine .inl ⟨h1, ⟨⟨(Go.Lib.cut s.data.toList [58]).1.toArray⟩, ⟨(Go.Lib.cut s.data.toList [58]).2.1.toArray⟩, ?_⟩, ZP _ _ _⟩
  show Ending.returned (.tuple #[_, _, .bool (Go.Lib.cut s.data.toList [58]).2.2]) = _;rw [h2]
 ·refine .inr ⟨⟨d.toArray⟩, ⟨t.toArray⟩, h1, h2, ?_, ZP _ _ _⟩
  show Ending.returned (.tuple #[.string ⟨(Go.Lib.cut s.data.toList [58]).1.toArray⟩, .string ⟨(Go.Lib.cut s.data.toList [58]).2.1.toArray⟩, .bool (Go.Lib.cut s.data.toList [58]).2.2]) = _;rw [h3]
theorem Zis (s : ByteArray) (w0 : World) (hs : s.size ≤ 281474976710656) : Calls prog 57 #[.string s] w0 fun e w' => e = .returned (.string s) ∧ Below w0.heap.size w0 w' := by
 have E := Bx.mk (St.start w0);refine ent func57 ntmps57 ?_;refine xsr<|xr 1 rfl<|xne<|xsr<|xr 1 rfl ?_;refine ycB (Any.stringslite_Clone ZlS s _ (by omega)) func79 E ?_;clear E;intro w1 E;refine xr 1 rfl<|xne<|xre<|xb1 results57 rfl ?_;exact ⟨rfl, E.o.bel⟩
theorem ZeK (s : ByteArray) (w0 : World) (hT : Vd w0) (hM : Zcm w0) (hE : Zcn w0) (hs : s.size ≤ 9223372036854775807) : Calls prog 33 #[.string s] w0 fun e w' => (∃ xs, IsRec s xs ∧ s.size ≤ 2048 ∧ ∃ ao cp, e = .returned (.tuple #[.slice ao xs.length cp, .bool true]) ∧ St w0 [Zg Zu 1 9 (.slice ao xs.length cp) xs] w') ∨ ((∀ l, IsRec s l → s.size ≤ 2048 → False) ∧ e = .returned (.tuple #[.slice none 0 0, .bool false]) ∧ Below w0.heap.size w0 w') := by
 have HT := Bx.mk hT; have HM := Bx.mk hM; have HE := Bx.mk hE; clear hT hM hE;have E := Bx.mk (St.start w0);refine ent func33 ntmps33 ?_;refine xsr<|xr 2 rfl<|xne<|xsq<|xsr<|xr 1 rfl<|xy rfl (fun a J=>ZL rfl (J.ev rfl) (by kernel_rfl))<|xr 1 rfl<|xne<|xcd 13 rfl (fun _ dcc1=>?_) fun _ dcc1=>?_;refine xct rfl<|xsr<|xr 2 rfl<|xne<|xre<|xtr<|xb2 results33 rfl rfl ?_;exact .inr ⟨fun l h h2 => absurd h2 (by omega), rfl, E.o.bel⟩;refine xcf rfl<|xsk<|xet<|xsq ?_;have hsz : s.size ≤ 2048 := by omega
 refine xrl<|xr 1 rfl<|xne<|xsq<|xsr<|xr 2 rfl<|xne<|xbl ?_;replace E := Bx.mk (E.o.nilRow Zu 1 9 none);intro a J;refine Zt (ι := Nat) (fun k a w => ∃ (ao : Option Addr) (cp : Nat) (xs : List ByteArray) (rest : ByteArray), (k = rest.size ∧ Uf s xs rest ∧ xs.length ≤ 60) ∧ Fr 56 a [(0, .string s), (4, .slice ao xs.length cp), (5, .string rest)] ∧ St w0 ([Zg Zu 1 9 (.slice ao xs.length cp) xs]) w) (fun k => k) s.size ⟨_, _, [], s, ⟨rfl, Uf.zero s, Nat.zero_le _⟩, J.ls _, E.o⟩ ?_;clear J E; clear a;rintro k a w1 ⟨ao, cp, xs, rest, ⟨hkr, hto, hxl⟩, J, E⟩;replace E := Bx.mk E;have hrs := hto.size;revert a;refine xsq<|xsr<|xr 1 rfl<|xy rfl (fun a J=>Y8 rfl (J.ev rfl) (J.ev rfl))<|xne<|xcs 16 rfl (fun cc2=>?_) fun cc2=>?_
 have hre : (rest.toList == (⟨#[]⟩ : ByteArray).toList) = false := by simpa using cc2
 refine xct rfl<|xsk<|xet<|xbl<|xsr<|xr 1 rfl ?_;refine yc (Znk rest _ (HM.o.below E.o.bel) (by omega)) func56 ?_;rintro _ w2 (⟨h58, ⟨cb, ca, rfl⟩, hb⟩ | ⟨num, tail, hcut, h58, rfl, hb⟩);refine ⟨_, rfl, ?_⟩; replace E := Bx.mk (E.o.later hb);clear hb;refine xr 7 rfl<|xne<|xsr<|xr 1 rfl ?_;refine yc (ZJ cb _ (HT.o.below E.o.bel) (HE.o.below E.o.bel)) func34 ?_;rintro _ w3 (⟨n, hng, rfl, hb⟩ | ⟨hng, rfl, hb⟩);refine ⟨_, rfl, ?_⟩; replace E := Bx.mk (E.o.later hb);clear hb;refine xr 5 rfl<|xne<|xsq<|xsr<|xr 17 rfl<|xne<|xct rfl<|xsr<|xr 2 rfl<|xne<|xre<|xtr<|xbr<|xtr<|xbr<|xtr<|xb2 results33 rfl rfl ?_;refine .inr ⟨fun l h h2 => ?_, rfl, E.o.bel⟩;obtain ⟨y, ws, e1, e2, e3, e4⟩ := hto.go h.is h2 h.many hre;exact h58 (by rw [e2]; simp);refine ⟨_, rfl, ?_⟩; replace E := Bx.mk (E.o.later hb);clear hb;refine xr 5 rfl<|xne<|xsq<|xsr<|xr 17 rfl<|xne<|xct rfl<|xsr<|xr 2 rfl<|xne<|xre<|xtr<|xbr<|xtr<|xbr<|xtr<|xb2 results33 rfl rfl ?_;refine .inr ⟨fun l h h2 => ?_, rfl, E.o.bel⟩;obtain ⟨y, ws, e1, e2, e3, e4⟩ := hto.go h.is h2 h.many hre;exact h58 (by rw [e2]; simp);refine ⟨_, rfl, ?_⟩; replace E := Bx.mk (E.o.later hb);clear hb;have htl : tail.size ≤ 2048 := by have h1 := congrArg length hcut; rw [length_append, length_cons] at h1; have h2 := Zh rest; have h3 := Zh tail; have h4 := hto.size; omega
 refine xr 7 rfl<|xne<|xsr<|xr 1 rfl ?_;refine yc (ZJ num _ (HT.o.below E.o.bel) (HE.o.below E.o.bel)) func34 ?_;rintro _ w4 (⟨n, hng, rfl, hb⟩ | ⟨hng, rfl, hb⟩);refine ⟨_, rfl, ?_⟩; replace E := Bx.mk (E.o.later hb);clear hb;refine xr 5 rfl<|xne<|xsq<|xsr<|xr 9 rfl<|xy rfl (fun a J=>ZL rfl (J.ev rfl) (by kernel_rfl))<|xr 3 rfl<|xcd 40 rfl (fun _ dcc3=>?_) fun _ dcc3=>?_;refine xr 4 rfl<|xne<|xct rfl<|xsr<|xr 2 rfl<|xne<|xre<|xtr<|xbr<|xtr<|xbr<|xtr<|xb2 results33 rfl rfl ?_;refine .inr ⟨fun l h h2 => ?_, rfl, E.o.bel⟩;obtain ⟨y, ws, e1, e2, e3, e4⟩ := hto.go h.is h2 h.many hre;have e5 := Zf5 (UI y.size) h58 (e2.symm.trans hcut);rw [Yx e5.1] at e3; have e6 := Option.some.inj (e3.symm.trans hng); have e7 := congrArg length e5.2; rw [length_append] at e7; have e8 := Zh y; have e9 := Zh tail; omega;refine xr 1 rfl<|xy rfl (vn 9 1 rfl)<|xr 2 rfl<|xne<|xce 44 rfl (fun _ dcc4=>?_) fun _ dcc4=>?_;refine xct rfl<|xsr<|xr 2 rfl<|xne<|xre<|xtr<|xbr<|xtr<|xbr<|xtr<|xb2 results33 rfl rfl ?_;refine .inr ⟨fun l h h2 => ?_, rfl, E.o.bel⟩;obtain ⟨y, ws, e1, e2, e3, e4⟩ := hto.go h.is h2 h.many hre;have e5 := Zf5 (UI y.size) h58 (e2.symm.trans hcut);rw [Yx e5.1] at e3; have e6 := Option.some.inj (e3.symm.trans hng); have e7 := congrArg length e5.2; rw [length_append] at e7; have e8 := Zh y; have e9 := Zh tail; omega;refine xcf rfl<|xsk<|xet<|xsr<|xr 3 rfl<|xy rfl (fun a J=>JS (k := n) rfl (J.ev rfl) (J.ev rfl) (by kernel_rfl) (by omega) (by omega)) ?_;refine ycB (Zis (tail.extract 0 n) _ (by rw [size_extract]; omega)) func57 E ?_;clear E;intro w5 E;refine ybs Zu 9 1 [tail.extract 0 n] E ?_;clear E;intro b1 w6 E;refine yap Y1 Zf E 1 (St.rdN E.o Zf 0 rfl) (Zv _) ?_;clear E;intro ao2 cp3 w7 E;refine xr 1 rfl<|xne<|xrl<|xr 2 rfl<|xy rfl (fun a J=>JT (k := n) rfl (J.ev rfl) (J.ev rfl) (by kernel_rfl) (by omega) (by omega))<|xr 1 rfl<|xni<|xeb<|xet ?_;have hz : xs.length + ([tail.extract 0 n]).length = (xs ++ ([tail.extract 0 n])).length := (length_append ..).symm;intro a J;rw [hz] at E J;have hto2 := hto.step hcut hng (by omega);have hlt : (tail.extract n tail.size).size < rest.size := by have h1 := congrArg length hcut; rw [length_append, length_cons] at h1; have h2 := Zh rest; have h3 := Zh tail; rw [size_extract]; omega
 replace E:=E.pks [1];exact ⟨(tail.extract n tail.size).size, ⟨_, _, xs ++ ([tail.extract 0 n]), tail.extract n tail.size, ⟨rfl, hto2, by rw [length_append, length_cons, length_nil]; omega⟩, J.less _ ⟨rfl, rfl, rfl, trivial⟩, (E.o.erase 1)⟩, (by rw [hkr]; exact hlt)⟩;refine ⟨_, rfl, ?_⟩; replace E := Bx.mk (E.o.later hb);clear hb;refine xr 5 rfl<|xne<|xsq<|xsr<|xr 17 rfl<|xne<|xct rfl<|xsr<|xr 2 rfl<|xne<|xre<|xtr<|xbr<|xtr<|xbr<|xtr<|xb2 results33 rfl rfl ?_;refine .inr ⟨fun l h h2 => ?_, rfl, E.o.bel⟩;obtain ⟨y, ws, e1, e2, e3, e4⟩ := hto.go h.is h2 h.many hre;have e5 := Zf5 (UI y.size) h58 (e2.symm.trans hcut);rw [Yx e5.1] at e3; rw [e3] at hng; cases hng;have hre : (rest.toList == (⟨#[]⟩ : ByteArray).toList) = true := by simpa using cc2
 refine xcf rfl<|xex<|xtx<|xtx<|xbh<|xet<|xsr<|xr 3 rfl<|xne<|xre<|xb2 results33 rfl rfl ?_;replace E:=E.pks [0];exact .inl ⟨xs, ⟨hto.done hre, hxl⟩, hsz, _, _, rfl, E.o⟩
theorem ZlT (n : Nat) : ∀ x ∈ (Zy n).data.toList, x ≠ 46 := by
 intro x hx e;subst e;rw [Yj] at hx;obtain ⟨d, hd⟩ := Q2 n 46 hx;obtain ⟨h1, h10⟩ := Q1 hd;have hn : (UInt8.ofNat (48 + d)).toNat = 48 + d := by rw [UInt8.toNat_ofNat']; omega
 rw [← h1] at hn;have : (46 : UInt8).toNat = 46 := rfl
 omega
theorem VP {n : Int} (h : 0 ≤ n ∧ n ≤ 999999999) : ∀ x ∈ (ZI n).data.toList, x ≠ 46 := by rw [YO h.1 h.2]; exact ZlT _
theorem ZbK {a : ByteArray} (h : ∀ x ∈ a.data.toList, x ≠ 46) (b : ByteArray) : Zd (a ++ (Zcl ++ b)) 46 = a :: Zd b 46 := by
 unfold Zd;rw [ZB, ZB, show Zcl.data.toList = [46] from rfl, List.singleton_append, Q0 46 _ _ h, map_cons]
theorem Zf7 {a : ByteArray} (h : ∀ x ∈ a.data.toList, x ≠ 46) : Zd a 46 = [a] := by
 unfold Zd;rw [Jf 46 _ h, map_cons, List.map_nil]
theorem Zfg (a b c : ByteArray) : a ++ b ++ c = a ++ (b ++ c) := Yx (by simp only [ZB, List.append_assoc])
theorem YA {p : PtrD} (h : p.ok = true) (hh : p.hole = false) : Zd (Z2 p) 46 = [ZI p.aC, ZI p.al, ZI p.am, ZI p.aB, ZI p.aq] := by
 have hb := PtrD.ok_all h hh;rw [UG h hh];simp only [Zfg];rw [ZbK (VP (by omega)), ZbK (VP (by omega)), ZbK (VP (by omega)), ZbK (VP (by omega)), Zf7 (VP (by omega))]
theorem Z5 {n : Int} (h : 0 ≤ n ∧ n ≤ 999999999) : Qr (ZI n) = some n.toNat := by rw [YO h.1 h.2]; exact VK (by omega)
theorem UJ {n : Int} {m : Nat} (h : 0 ≤ n ∧ n ≤ 999999999) (hg : Qr (ZI n) = some m) : (m : Int) = n := by
 rw [Z5 h] at hg;have := Option.some.inj hg
 omega
theorem YP {p : PtrD} (h : p.hole = true) : p = PtrD.zero := by
 unfold PtrD.hole at h;simp only [Bool.and_eq_true, beq_iff_eq] at h;obtain ⟨⟨⟨⟨h1, h2⟩, h3⟩, h4⟩, h5⟩ := h
 cases p
 simp only at h1 h2 h3 h4 h5;subst h1; subst h2; subst h3; subst h4; subst h5
 rfl
theorem QP {p : PtrD} {s : ByteArray} (h : p.ok = true) (hs : Z2 p = s) (hd : (s.toList == (⟨#[45]⟩ : ByteArray).toList) = false) : p.hole = false := by
 cases hh : p.hole with
 | false => rfl
 | true =>
  rw [X6 h hh] at hs;rw [← hs, show ((⟨#[45]⟩ : ByteArray).toList == (⟨#[45]⟩ : ByteArray).toList) = true from beq_self_eq_true _] at hd
  cases hd
theorem Zpc {α : Type} {l : List α} (h : l.length = 5) : ∃ a b c d e, l = [a, b, c, d, e] := by
 match l, h with
 | [a, b, c, d, e], _ => exact ⟨a, b, c, d, e, rfl⟩
theorem ZbL {p q : PtrD} (hp : p.ok = true) (hq : q.ok = true) (h : Z2 p = Z2 q) : p = q := by
 cases h1 : p.hole with
 | true =>
  cases h2 : q.hole with
  | true => rw [YP h1, YP h2]
  | false =>
   have := YA hq h2;rw [← h, X6 hp h1] at this;exact absurd (congrArg length this) (show ¬ (1 : Nat) = 5 by decide)
 | false =>
  cases h2 : q.hole with
  | true =>
   have := YA hp h1;rw [h, X6 hq h2] at this;exact absurd (congrArg length this) (show ¬ (1 : Nat) = 5 by decide)
  | false =>
   have e1 := YA hp h1;have e2 := YA hq h2;rw [h, e2] at e1;have hb := PtrD.ok_all hp h1;have hc := PtrD.ok_all hq h2;simp only [List.cons.injEq, and_true] at e1;obtain ⟨k1, k2, k3, k4, k5⟩ := e1;have num : ∀ {m n : Int}, 0 ≤ m ∧ m ≤ 999999999 → 0 ≤ n ∧ n ≤ 999999999 → ZI m = ZI n → n = m := fun hm hn e => by
    have := Z5 hm;rw [e, Z5 hn] at this;have := Option.some.inj this
    omega
   have j1 := num (by omega) (by omega) k1;have j2 := num (by omega) (by omega) k2;have j3 := num (by omega) (by omega) k3;have j4 := num (by omega) (by omega) k4;have j5 := num (by omega) (by omega) k5
   cases p; cases q
   simp only at j1 j2 j3 j4 j5;subst j1; subst j2; subst j3; subst j4; subst j5
   rfl
theorem Zit (s : ByteArray) (w0 : World) (hT : Vd w0) (hM : Zcm w0) (hE : Zcn w0) (hs : s.size ≤ 4294967280) : Calls prog 59 #[.string s] w0 fun e w' => (∃ p : PtrD, p.ok = true ∧ Z2 p = s ∧ e = .returned (.tuple #[pV p, .bool true]) ∧ Below w0.heap.size w0 w') ∨ ((∀ p : PtrD, p.ok = true → Z2 p = s → False) ∧ e = .returned (.tuple #[az5, .bool false]) ∧ Below w0.heap.size w0 w') := by
 have HT := Bx.mk hT; have HM := Bx.mk hM; have HE := Bx.mk hE; clear hT hM hE;have E := Bx.mk (St.start w0);refine ent func59 ntmps59 ?_;refine xsr ?_;refine yal z5 E ?_;clear E;intro w1 b1 E;refine xr 1 rfl<|xne<|xsq<|xsr<|xr 1 rfl<|xy rfl (fun a J=>Y7 rfl (J.ev rfl) (J.ev rfl))<|xne<|xcs 12 rfl (fun cc1=>?_) fun cc1=>?_;refine xct rfl<|xsr<|xy rfl (vb z5 rfl) ?_;refine yst E 0 ?_;clear E;intro w2 E;replace E:=E.nm;refine xr 1 rfl<|xne<|xre<|xtr ?_;intro a J;refine Zw J results59 (J.resBox rfl (E.o.box 0 rfl) (by kernel_rfl)) (J.res rfl) ?_;exact .inl ⟨PtrD.zero, by decide, (X6 (by decide) (by decide)).trans (ZM cc1).symm, rfl, E.o.bel⟩;refine xcf rfl<|xsk<|xet<|xsr ?_;refine yal z5 E ?_;clear E;intro w3 b2 E;refine xne<|xsr<|xr 1 rfl ?_;refine yc (Zj9 s 46 _ (by omega) (HM.o.below E.o.bel)) func82 ?_;rintro _ w4 ⟨ao3, cp3, rfl, hs⟩;refine ⟨_, rfl, ?_⟩;replace E := E.ad hs;clear hs;refine xr 1 rfl<|xne<|xsr ?_;refine yc (Zfe b2 _) func76 ?_;rintro _ w5 ⟨ao4, cp4, rfl, hs⟩;refine ⟨_, rfl, ?_⟩;replace E := E.ad hs;clear hs;refine xr 1 rfl<|xne<|xsq<|xsr<|xr 1 rfl<|xy rfl (vn 9 1 rfl)<|xr 1 rfl<|xy rfl (vn 59 1 rfl)<|xr 1 rfl<|xne<|xcn 21 rfl (fun _ dcc2=>?_) fun _ dcc2=>?_;refine xct rfl<|xsr<|xy rfl (vb z5 rfl) ?_;refine yst E 3 ?_;clear E;intro w6 E;replace E:=E.nm;refine xr 1 rfl<|xne<|xre<|xtr ?_;intro a J;refine Zw J results59 (J.resBox rfl (E.o.box 3 rfl) (by kernel_rfl)) (J.res rfl) ?_;refine .inr ⟨fun q hq hqs => ?_, rfl, E.o.bel⟩;have hqh := QP hq hqs (by simpa using cc1); have hqp := YA hq hqh; rw [hqs] at hqp; have hqb := PtrD.ok_all hq hqh;rw [hqp] at dcc2; exact dcc2 rfl;refine xcf rfl<|xsk<|xet<|xsq<|xsq ?_;intro a J;obtain ⟨x0, x1, x2, x3, x4, hws⟩ := Zpc (l := Zd s 46) (by omega); rw [hws] at E J;replace J : Fr 51 a [(0, .string s), (2, .pointer (some ⟨b1, 0, none⟩)), (3, .bool false), (11, .string s), (12, .bool false), (4, .pointer (some ⟨b2, 0, none⟩)), (14, .string s), (15, .slice ao3 5 cp3), (5, .slice ao3 5 cp3), (16, .slice ao4 5 cp4), (6, .slice ao4 5 cp4), (17, .slice ao3 5 cp3), (19, .slice ao4 5 cp4), (20, .int .i64 (5 : Int)), (21, .bool false)] := J.ls _;obtain ⟨g5, rfl, _, _, _, _⟩ := E.o.rowOpen 1 rfl (Nat.succ_pos _);obtain ⟨g6, rfl, _, _, _, _⟩ := E.o.rowOpen 0 rfl (Nat.succ_pos _);revert a;refine xrl<|xr 1 rfl<|xy rfl (vn 9 1 rfl)<|xr 1 rfl<|xne<|xbl ?_;intro a J;refine Zck 6 ?_;revert a;refine xsr<|xr 1 rfl<|xne<|xsq ?_;intro a J;replace J := J.know (k := 26) (c := true) rfl (by decide);revert a;refine xct rfl<|xsk<|xet<|xsq<|xbl<|xsr<|xr 1 rfl<|xy rfl (vx 9 0 1 rfl)<|xy rfl (ve Zf E.o 1 0 rfl rfl rfl rfl)<|xr 2 rfl<|xne<|xsr<|xr 1 rfl ?_;refine yc (ZJ x0 _ (HT.o.below E.o.bel) (HE.o.below E.o.bel)) func34 ?_;rintro _ w7 (⟨n7, hg7, rfl, hb⟩ | ⟨hg7, rfl, hb⟩);refine ⟨_, rfl, ?_⟩; replace E := Bx.mk (E.o.later hb);clear hb;refine xr 5 rfl<|xne<|xsq<|xsr<|xr 2 rfl<|xne<|xcf rfl<|xsk<|xet<|xrl<|xr 2 rfl<|xy rfl (vx 59 0 1 rfl)<|xy rfl (ve Xq E.o 0 0 rfl rfl rfl rfl)<|xr 2 rfl ?_;refine ysF 2 E ?_;clear E;intro w8 E;replace E:=E.nm;refine xni<|xeb<|xet<|xrl<|xy rfl (fun a J=>Yc (r := 1) rfl (J.ev rfl) (J.ev rfl) (by decide))<|xr 1 rfl<|xne ?_;intro a J;refine Xo 5 ?_;revert a;refine xsr<|xr 1 rfl<|xne<|xsq ?_;intro a J;replace J := J.know (k := 26) (c := true) rfl (by decide);revert a;refine xct rfl<|xsk<|xet<|xsq<|xbl<|xsr<|xr 1 rfl<|xy rfl (vx 9 1 1 rfl)<|xy rfl (ve Zf E.o 1 1 rfl rfl rfl rfl)<|xr 2 rfl<|xne<|xsr<|xr 1 rfl ?_;refine yc (ZJ x1 _ (HT.o.below E.o.bel) (HE.o.below E.o.bel)) func34 ?_;rintro _ w9 (⟨n8, hg8, rfl, hb⟩ | ⟨hg8, rfl, hb⟩);refine ⟨_, rfl, ?_⟩; replace E := Bx.mk (E.o.later hb);clear hb;refine xr 5 rfl<|xne<|xsq<|xsr<|xr 2 rfl<|xne<|xcf rfl<|xsk<|xet<|xrl<|xr 2 rfl<|xy rfl (vx 59 1 1 rfl)<|xy rfl (ve Xq E.o 0 1 rfl rfl rfl rfl)<|xr 2 rfl ?_;refine ysF 2 E ?_;clear E;intro w10 E;replace E:=E.nm;refine xni<|xeb<|xet<|xrl<|xy rfl (fun a J=>Yc (r := 2) rfl (J.ev rfl) (J.ev rfl) (by decide))<|xr 1 rfl<|xne ?_;intro a J;refine Xo 4 ?_;revert a;refine xsr<|xr 1 rfl<|xne<|xsq ?_;intro a J;replace J := J.know (k := 26) (c := true) rfl (by decide);revert a;refine xct rfl<|xsk<|xet<|xsq<|xbl<|xsr<|xr 1 rfl<|xy rfl (vx 9 2 1 rfl)<|xy rfl (ve Zf E.o 1 2 rfl rfl rfl rfl)<|xr 2 rfl<|xne<|xsr<|xr 1 rfl ?_;refine yc (ZJ x2 _ (HT.o.below E.o.bel) (HE.o.below E.o.bel)) func34 ?_;rintro _ w11 (⟨n9, hg9, rfl, hb⟩ | ⟨hg9, rfl, hb⟩);refine ⟨_, rfl, ?_⟩; replace E := Bx.mk (E.o.later hb);clear hb;refine xr 5 rfl<|xne<|xsq<|xsr<|xr 2 rfl<|xne<|xcf rfl<|xsk<|xet<|xrl<|xr 2 rfl<|xy rfl (vx 59 2 1 rfl)<|xy rfl (ve Xq E.o 0 2 rfl rfl rfl rfl)<|xr 2 rfl ?_;refine ysF 2 E ?_;clear E;intro w12 E;replace E:=E.nm;refine xni<|xeb<|xet<|xrl<|xy rfl (fun a J=>Yc (r := 3) rfl (J.ev rfl) (J.ev rfl) (by decide))<|xr 1 rfl<|xne ?_;intro a J;refine Xo 3 ?_;revert a;refine xsr<|xr 1 rfl<|xne<|xsq ?_;intro a J;replace J := J.know (k := 26) (c := true) rfl (by decide);revert a;refine xct rfl<|xsk<|xet<|xsq<|xbl<|xsr<|xr 1 rfl<|xy rfl (vx 9 3 1 rfl)<|xy rfl (ve Zf E.o 1 3 rfl rfl rfl rfl)<|xr 2 rfl<|xne<|xsr<|xr 1 rfl ?_;refine yc (ZJ x3 _ (HT.o.below E.o.bel) (HE.o.below E.o.bel)) func34 ?_;rintro _ w13 (⟨n10, hg10, rfl, hb⟩ | ⟨hg10, rfl, hb⟩);refine ⟨_, rfl, ?_⟩; replace E := Bx.mk (E.o.later hb);clear hb;refine xr 5 rfl<|xne<|xsq<|xsr<|xr 2 rfl<|xne<|xcf rfl<|xsk<|xet<|xrl<|xr 2 rfl<|xy rfl (vx 59 3 1 rfl)<|xy rfl (ve Xq E.o 0 3 rfl rfl rfl rfl)<|xr 2 rfl ?_;refine ysF 2 E ?_;clear E;intro w14 E;replace E:=E.nm;refine xni<|xeb<|xet<|xrl<|xy rfl (fun a J=>Yc (r := 4) rfl (J.ev rfl) (J.ev rfl) (by decide))<|xr 1 rfl<|xne ?_;intro a J;refine Xo 2 ?_;revert a;refine xsr<|xr 1 rfl<|xne<|xsq ?_;intro a J;replace J := J.know (k := 26) (c := true) rfl (by decide);revert a;refine xct rfl<|xsk<|xet<|xsq<|xbl<|xsr<|xr 1 rfl<|xy rfl (vx 9 4 1 rfl)<|xy rfl (ve Zf E.o 1 4 rfl rfl rfl rfl)<|xr 2 rfl<|xne<|xsr<|xr 1 rfl ?_;refine yc (ZJ x4 _ (HT.o.below E.o.bel) (HE.o.below E.o.bel)) func34 ?_;rintro _ w15 (⟨n11, hg11, rfl, hb⟩ | ⟨hg11, rfl, hb⟩);refine ⟨_, rfl, ?_⟩; replace E := Bx.mk (E.o.later hb);clear hb;refine xr 5 rfl<|xne<|xsq<|xsr<|xr 2 rfl<|xne<|xcf rfl<|xsk<|xet<|xrl<|xr 2 rfl<|xy rfl (vx 59 4 1 rfl)<|xy rfl (ve Xq E.o 0 4 rfl rfl rfl rfl)<|xr 2 rfl ?_;refine ysF 2 E ?_;clear E;intro w16 E;replace E:=E.nm;refine xni<|xeb<|xet<|xrl<|xy rfl (fun a J=>Yc (r := 5) rfl (J.ev rfl) (J.ev rfl) (by decide))<|xr 1 rfl<|xne ?_;intro a J;refine Xo 1 ?_;revert a;refine xsr<|xr 1 rfl<|xne<|xsq ?_;intro a J;replace J := J.know (k := 26) (c := false) rfl (by decide);revert a;refine xcf rfl<|xex<|xtx<|xtx<|xbh<|xet<|xsq<|xsr<|Xw 2 5 E rfl rfl ?_;refine ycB (VL (⟨(n7 : Int), (n8 : Int), (n9 : Int), (n10 : Int), (n11 : Int)⟩ : PtrD) _ (HT.o.below E.o.bel)) func55 E ?_;clear E;intro w17 E;refine xr 1 rfl<|xy rfl (fun a J=>Y8 rfl (J.ev rfl) (J.ev rfl))<|xne<|xcs 48 rfl (fun cc3=>?_) fun cc3=>?_;refine xct rfl<|xsr<|xy rfl (vb z5 rfl) ?_;refine yst E 3 ?_;clear E;intro w18 E;replace E:=E.nm;refine xr 1 rfl<|xne<|xre<|xtr ?_;intro a J;refine Zw J results59 (J.resBox rfl (E.o.box 3 rfl) (by kernel_rfl)) (J.res rfl) ?_;refine .inr ⟨fun q hq hqs => ?_, rfl, E.o.bel⟩;have hqh := QP hq hqs (by simpa using cc1); have hqp := YA hq hqh; rw [hqs] at hqp; have hqb := PtrD.ok_all hq hqh;rw [hws] at hqp; simp only [List.cons.injEq, and_true] at hqp; obtain ⟨k0, k1, k2, k3, k4⟩ := hqp;rw [k0] at hg7; have j0 := UJ (n := q.aC) (by omega) hg7;rw [k1] at hg8; have j1 := UJ (n := q.al) (by omega) hg8;rw [k2] at hg9; have j2 := UJ (n := q.am) (by omega) hg9;rw [k3] at hg10; have j3 := UJ (n := q.aB) (by omega) hg10;rw [k4] at hg11; have j4 := UJ (n := q.aq) (by omega) hg11;have hpq : (⟨(n7 : Int), (n8 : Int), (n9 : Int), (n10 : Int), (n11 : Int)⟩ : PtrD) = q := by rw [j0, j1, j2, j3, j4]
 rw [hpq, hqs] at cc3; simp at cc3;refine xcf rfl<|xsk<|xet<|xsr<|Xw 2 5 E rfl rfl ?_;refine yst E 3 ?_;clear E;intro w19 E;replace E:=E.nm;refine xr 1 rfl<|xne<|xre ?_;intro a J;refine Zw J results59 (J.resBox rfl (E.o.box 3 rfl) (by kernel_rfl)) (J.res rfl) ?_;have hpt : Z2 (⟨(n7 : Int), (n8 : Int), (n9 : Int), (n10 : Int), (n11 : Int)⟩ : PtrD) = s := ZM (by simpa using cc3);have hpo : (⟨(n7 : Int), (n8 : Int), (n9 : Int), (n10 : Int), (n11 : Int)⟩ : PtrD).ok = true := by
     cases ho : (⟨(n7 : Int), (n8 : Int), (n9 : Int), (n10 : Int), (n11 : Int)⟩ : PtrD).ok with
     | true => rfl
     | false =>
       rw [ZbH ho] at hpt;rw [← hpt] at hws;exact absurd (congrArg length hws) (show ¬ (1 : Nat) = 5 by decide)
 exact .inl ⟨_, hpo, hpt, rfl, E.o.bel⟩;refine ⟨_, rfl, ?_⟩; replace E := Bx.mk (E.o.later hb);clear hb;refine xr 5 rfl<|xne<|xsq<|xsr<|xr 2 rfl<|xne<|xct rfl<|xsr<|xy rfl (vb z5 rfl) ?_;refine yst E 3 ?_;clear E;intro w20 E;replace E:=E.nm;refine xr 1 rfl<|xne<|xre<|xtr<|xbr<|xtr<|xtr<|xbr<|xtr ?_;intro a J;refine Zw J results59 (J.resBox rfl (E.o.box 3 rfl) (by kernel_rfl)) (J.res rfl) ?_;refine .inr ⟨fun q hq hqs => ?_, rfl, E.o.bel⟩;have hqh := QP hq hqs (by simpa using cc1); have hqp := YA hq hqh; rw [hqs] at hqp; have hqb := PtrD.ok_all hq hqh;rw [hws] at hqp; simp only [List.cons.injEq, and_true] at hqp; obtain ⟨k0, k1, k2, k3, k4⟩ := hqp;rw [k4, Z5 (by omega)] at hg11; cases hg11;refine ⟨_, rfl, ?_⟩; replace E := Bx.mk (E.o.later hb);clear hb;refine xr 5 rfl<|xne<|xsq<|xsr<|xr 2 rfl<|xne<|xct rfl<|xsr<|xy rfl (vb z5 rfl) ?_;refine yst E 3 ?_;clear E;intro w21 E;replace E:=E.nm;refine xr 1 rfl<|xne<|xre<|xtr<|xbr<|xtr<|xtr<|xbr<|xtr ?_;intro a J;refine Zw J results59 (J.resBox rfl (E.o.box 3 rfl) (by kernel_rfl)) (J.res rfl) ?_;refine .inr ⟨fun q hq hqs => ?_, rfl, E.o.bel⟩;have hqh := QP hq hqs (by simpa using cc1); have hqp := YA hq hqh; rw [hqs] at hqp; have hqb := PtrD.ok_all hq hqh;rw [hws] at hqp; simp only [List.cons.injEq, and_true] at hqp; obtain ⟨k0, k1, k2, k3, k4⟩ := hqp;rw [k3, Z5 (by omega)] at hg10; cases hg10;refine ⟨_, rfl, ?_⟩; replace E := Bx.mk (E.o.later hb);clear hb;refine xr 5 rfl<|xne<|xsq<|xsr<|xr 2 rfl<|xne<|xct rfl<|xsr<|xy rfl (vb z5 rfl) ?_;refine yst E 3 ?_;clear E;intro w22 E;replace E:=E.nm;refine xr 1 rfl<|xne<|xre<|xtr<|xbr<|xtr<|xtr<|xbr<|xtr ?_;intro a J;refine Zw J results59 (J.resBox rfl (E.o.box 3 rfl) (by kernel_rfl)) (J.res rfl) ?_;refine .inr ⟨fun q hq hqs => ?_, rfl, E.o.bel⟩;have hqh := QP hq hqs (by simpa using cc1); have hqp := YA hq hqh; rw [hqs] at hqp; have hqb := PtrD.ok_all hq hqh;rw [hws] at hqp; simp only [List.cons.injEq, and_true] at hqp; obtain ⟨k0, k1, k2, k3, k4⟩ := hqp;rw [k2, Z5 (by omega)] at hg9; cases hg9;refine ⟨_, rfl, ?_⟩; replace E := Bx.mk (E.o.later hb);clear hb;refine xr 5 rfl<|xne<|xsq<|xsr<|xr 2 rfl<|xne<|xct rfl<|xsr<|xy rfl (vb z5 rfl) ?_;refine yst E 3 ?_;clear E;intro w23 E;replace E:=E.nm;refine xr 1 rfl<|xne<|xre<|xtr<|xbr<|xtr<|xtr<|xbr<|xtr ?_;intro a J;refine Zw J results59 (J.resBox rfl (E.o.box 3 rfl) (by kernel_rfl)) (J.res rfl) ?_;refine .inr ⟨fun q hq hqs => ?_, rfl, E.o.bel⟩;have hqh := QP hq hqs (by simpa using cc1); have hqp := YA hq hqh; rw [hqs] at hqp; have hqb := PtrD.ok_all hq hqh;rw [hws] at hqp; simp only [List.cons.injEq, and_true] at hqp; obtain ⟨k0, k1, k2, k3, k4⟩ := hqp;rw [k1, Z5 (by omega)] at hg8; cases hg8;refine ⟨_, rfl, ?_⟩; replace E := Bx.mk (E.o.later hb);clear hb;refine xr 5 rfl<|xne<|xsq<|xsr<|xr 2 rfl<|xne<|xct rfl<|xsr<|xy rfl (vb z5 rfl) ?_;refine yst E 3 ?_;clear E;intro w24 E;replace E:=E.nm;refine xr 1 rfl<|xne<|xre<|xtr<|xbr<|xtr<|xtr<|xbr<|xtr ?_;intro a J;refine Zw J results59 (J.resBox rfl (E.o.box 3 rfl) (by kernel_rfl)) (J.res rfl) ?_;refine .inr ⟨fun q hq hqs => ?_, rfl, E.o.bel⟩;have hqh := QP hq hqs (by simpa using cc1); have hqp := YA hq hqh; rw [hqs] at hqp; have hqb := PtrD.ok_all hq hqh;rw [hws] at hqp; simp only [List.cons.injEq, and_true] at hqp; obtain ⟨k0, k1, k2, k3, k4⟩ := hqp;rw [k0, Z5 (by omega)] at hg7; cases hg7
open Go.Lib
def ZlU : ByteArray := ⟨#[44]⟩
def fanB (l : List PtrD) : ByteArray := QM (l.map Z2) ZlU
theorem ZbM (c : UInt8) : ∀ (x : List UInt8) (r : List (List UInt8)), (∀ y ∈ x :: r, ∀ b ∈ y, b ≠ c) → splitL c (Go.Lib.join (x :: r) [c]) = x :: r
 | x, [], h => by
  rw [show Go.Lib.join [x] [c] = x by simp [Go.Lib.join, Go.Lib.joinTail]];exact Jf c x (h x (mem_cons_self ..))
 | x, y :: r, h => by
  have e : Go.Lib.join (x :: y :: r) [c] = x ++ c :: Go.Lib.join (y :: r) [c] := by simp [Go.Lib.join, Go.Lib.joinTail]
  rw [e, Q0 c _ x (h x (mem_cons_self ..)), ZbM c y r fun z hz => h z (mem_cons_of_mem _ hz)]
theorem Zha {l : List ByteArray} {c : UInt8} (hne : l ≠ []) (h : ∀ y ∈ l, ∀ b ∈ y.data.toList, b ≠ c) : Zd (QM l ⟨#[c]⟩) c = l := by
 match l, hne with
 | x :: r, _ =>
  unfold Zd QM;show (splitL c (Go.Lib.join ((x :: r).map (·.data.toList)) [c])).map _ = _;rw [map_cons, ZbM c _ _ (fun y hy b hb => by
   rcases mem_cons.1 hy with rfl | hy
   ·exact h x (mem_cons_self ..) b hb
   ·obtain ⟨z, hz, rfl⟩ := List.mem_map.1 hy
    exact h z (mem_cons_of_mem _ hz) b hb), ← map_cons (f := fun y : ByteArray => y.data.toList)]
  exact ZbA (x :: r)
theorem Znl (c : UInt8) (hc : digitVal c = none) (n : Nat) : ∀ x ∈ (Zy n).data.toList, x ≠ c := by
 intro x hx e;subst e;obtain ⟨d, hd⟩ := Q2 n x (by rw [← Yj]; exact hx);rw [hc] at hd
 cases hd
theorem Zf8 (c : UInt8) (hc : digitVal c = none) (n : Int) : ∀ x ∈ (ZI n).data.toList, x ≠ c := by
 unfold ZI
 split
 ·exact Znl c hc _
 ·intro x hx; simp at hx
theorem ZlV (p : PtrD) : ∀ x ∈ (Z2 p).data.toList, x ≠ 44 := by
 cases h : p.ok with
 | false => rw [ZbH h]; intro x hx; simp at hx
 | true =>
  cases hh : p.hole with
  | true => rw [X6 h hh]; intro x hx; rw [show x = 45 from by simpa using hx]; decide
  | false =>
   rw [UG h hh];intro x hx;have hn := fun n => Zf8 44 (by decide) n x
   simp only [ZB, mem_append, show Zcl.data.toList = [46] from rfl, mem_singleton] at hx;rcases hx with (((((((hx | hx) | hx) | hx) | hx) | hx) | hx) | hx) | hx
   all_goals first | exact hn _ hx | (rw [hx]; decide)
theorem ZaX {l : List PtrD} (hne : l ≠ []) : Zd (fanB l) 44 = l.map Z2 := by
 refine Zha (by simpa using hne) fun y hy => ?_;obtain ⟨p, _, rfl⟩ := List.mem_map.1 hy;exact ZlV p
structure IsFan (s : ByteArray) (l : List PtrD) : Prop where
  n : l.length = 4
  ok : ∀ p ∈ l, p.ok = true
  some : l.all (fun p => p.hole) = false
  is : fanB l = s
theorem Zjt {l m : List PtrD} (hl : ∀ p ∈ l, p.ok = true) (hm : ∀ p ∈ m, p.ok = true) (h : l.map Z2 = m.map Z2) : l = m := by
 induction l generalizing m with
 | nil => cases m with
  | nil => rfl
  | cons _ _ => simp at h
 | cons p l ih => cases m with
  | nil => simp at h
  | cons q m =>
   simp only [map_cons, List.cons.injEq] at h;rw [ZbL (hl p (mem_cons_self ..)) (hm q (mem_cons_self ..)) h.1, ih (fun x hx => hl x (mem_cons_of_mem _ hx)) (fun x hx => hm x (mem_cons_of_mem _ hx)) h.2]
theorem IsFan.one {s : ByteArray} {l m : List PtrD} (h : IsFan s l) (k : IsFan s m) : l = m := by
 refine Zjt h.ok k.ok ?_;rw [← ZaX (l := l) (fun e => by have := h.n; rw [e] at this; cases this), ← ZaX (l := m) (fun e => by have := k.n; rw [e] at this; cases this), h.is, k.is]
theorem IsFan.pieces {s : ByteArray} {l : List PtrD} (h : IsFan s l) : Zd s 44 = l.map Z2 := by
 rw [← h.is];exact ZaX fun e => by have := h.n; rw [e] at this; cases this
open Classical in
noncomputable def ZlW (s : ByteArray) : Option (List PtrD) := if h : ∃ l, IsFan s l then some h.choose else none
theorem Zhb {s : ByteArray} {l : List PtrD} (h : IsFan s l) : ZlW s = some l := by
 have he : ∃ l, IsFan s l := ⟨l, h⟩;unfold ZlW;rw [dif_pos he, he.choose_spec.one h]
theorem Znm {s : ByteArray} (h : ∀ l, ¬ IsFan s l) : ZlW s = none := by
 unfold ZlW;rw [dif_neg fun ⟨l, hl⟩ => h l hl]
def Qi (p : PtrD) (s : ByteArray) : Bool := p.ok && (!p.hole && ((p.am == (s.size : Int)) && (p.aB == UF s)))
def Yt (st : Za) (p : PtrD) : ByteArray := st.ac.getD p.aC.toNat ByteArray.empty
def Zn (st : Za) (p : PtrD) : ByteArray := bif p.hole then ByteArray.empty else bif Qi p (Yt st p) then Yt st p else ByteArray.empty
def XP (st : Za) (p : PtrD) : Bool := bif p.hole then true else Qi p (Yt st p)
theorem Xd {st : Za} {p : PtrD} (h : p.hole = true) : Zn st p = ByteArray.empty := by unfold Zn; rw [h]; rfl
theorem ZaY {st : Za} {p : PtrD} (h : p.hole = true) : XP st p = true := by unfold XP; rw [h]; rfl
theorem JC {st : Za} {p : PtrD} (h : p.hole = false) (hf : Qi p (Yt st p) = true) : Zn st p = Yt st p := by unfold Zn; rw [h, hf]; rfl
theorem Zhc {st : Za} {p : PtrD} (h : p.hole = false) (hf : Qi p (Yt st p) = false) : Zn st p = ByteArray.empty := by unfold Zn; rw [h, hf]; rfl
theorem QQ {st : Za} {p : PtrD} (h : p.hole = false) : XP st p = Qi p (Yt st p) := by unfold XP; rw [h]; rfl
def YI : List PtrD := [PtrD.zero, PtrD.zero, PtrD.zero, PtrD.zero]
theorem X7 : PtrD.zero.hole = true := rfl
noncomputable def kids (st : Za) (p : PtrD) (level : Int) : Option (List PtrD) :=
 bif p.hole then some YI else bif XP st p && (p.aq == level) then (ZlW (Zn st p)).bind fun l => bif l.any (fun k => decide (p.al < k.al)) then none else some l else none
noncomputable def kidsS (st : Za) (p : PtrD) (level : Int) : Option (List PtrD) :=
 bif p.hole then some YI else bif p.ok && ((p.aq == level) && decide (p.al ≤ st.av)) then kids st p level else none
theorem JD {st : Za} {p : PtrD} {n : Int} (h : p.hole = true) : kids st p n = some YI := by unfold kids; rw [h]; rfl
theorem JX {st : Za} {p : PtrD} {n : Int} (h : p.hole = true) : kidsS st p n = some YI := by unfold kidsS; rw [h]; rfl
theorem ZcY {st : Za} {p : PtrD} {n : Int} (h : p.hole = false) (hr : XP st p = false) : kids st p n = none := by unfold kids; rw [h, hr]; rfl
theorem ZdM {st : Za} {p : PtrD} {n : Int} (h : p.hole = false) (hr : (p.aq == n) = false) : kids st p n = none := by unfold kids; rw [h, hr, Bool.and_false]; rfl
theorem ZdN {st : Za} {p : PtrD} {n : Int} (h : p.hole = false) (hf : ∀ l, ¬ IsFan (Zn st p) l) : kids st p n = none := by
 unfold kids;rw [h, Znm hf]
 cases (XP st p && (p.aq == n)) <;> rfl
theorem Zfh {st : Za} {p : PtrD} {n : Int} {l : List PtrD} (h : p.hole = false) (hf : IsFan (Zn st p) l) (hb : l.any (fun k => decide (p.al < k.al)) = true) : kids st p n = none := by
 unfold kids;rw [h, Zhb hf]
 cases (XP st p && (p.aq == n))
 ·rfl
 ·simp only [cond_true, cond_false, Option.bind_some, hb]
theorem ZdO {st : Za} {p : PtrD} {n : Int} {l : List PtrD} (h : p.hole = false) (hr : XP st p = true) (hn : (p.aq == n) = true) (hf : IsFan (Zn st p) l) (hb : l.any (fun k => decide (p.al < k.al)) = false) : kids st p n = some l := by
 unfold kids;rw [h, Zhb hf, hr, hn];simp only [cond_true, cond_false, Option.bind_some, hb, Bool.and_self]
theorem QR {st : Za} {p : PtrD} {n : Int} {l : List PtrD} (h : kids st p n = some l) : l.length = 4 ∧ (∀ k ∈ l, k.ok = true) ∧ (p.hole = true ∧ l = YI ∨ p.hole = false ∧ p.aq = n ∧ XP st p = true ∧ IsFan (Zn st p) l ∧ ∀ k ∈ l, k.al ≤ p.al) := by
 cases hh : p.hole with
 | true =>
  rw [JD hh] at h;obtain rfl := Option.some.inj h;exact ⟨rfl, fun k hk => by simp only [YI, mem_cons, List.not_mem_nil, or_false, or_self] at hk; rw [hk]; rfl, .inl ⟨rfl, rfl⟩⟩
 | false =>
  cases hr : XP st p with
  | false => rw [ZcY hh hr] at h; cases h
  | true =>
   cases hn : (p.aq == n) with
   | false => rw [ZdM hh hn] at h; cases h
   | true =>
    by_cases hf : ∃ m, IsFan (Zn st p) m
    ·obtain ⟨m, hm⟩ := hf
     cases hb : m.any (fun k => decide (p.al < k.al)) with
     | true => rw [Zfh hh hm hb] at h; cases h
     | false =>
      rw [ZdO hh hr hn hm hb] at h;obtain rfl := Option.some.inj h;refine ⟨hm.n, hm.ok, .inr ⟨rfl, eq_of_beq hn, rfl, hm, fun k hk => ?_⟩⟩;have := (List.any_eq_false.1 hb) k hk;have := of_decide_eq_false (by simpa using this : decide (p.al < k.al) = false)
      omega
    ·rw [ZdN hh fun l hl => hf ⟨l, hl⟩] at h; cases h
theorem JY {st : Za} {p : PtrD} {n : Int} (hp : p.ok = true) (hb : p.al ≤ st.av) : kidsS st p n = kids st p n := by
 unfold kidsS;rw [hp, decide_eq_true hb, Bool.and_true, Bool.true_and]
 cases hh : p.hole with
 | true => rw [JD hh]; rfl
 | false =>
  cases hn : (p.aq == n) with
  | false => rw [ZdM hh hn]; rfl
  | true => rfl
theorem VQ {st : Za} {p : PtrD} {n : Int} (h : p.hole = false) (hn : (p.ok && ((p.aq == n) && decide (p.al ≤ st.av))) = false) : kidsS st p n = none := by unfold kidsS; rw [h, hn]; rfl
theorem UK {st : Za} {p : PtrD} {n : Int} {l : List PtrD} (h : kidsS st p n = some l) : kids st p n = some l ∧ (p.hole = false → p.ok = true ∧ p.al ≤ st.av) := by
 cases hh : p.hole with
 | true => rw [JX hh] at h; rw [JD hh]; exact ⟨h, fun e => by cases e⟩
 | false =>
  cases hc : (p.ok && ((p.aq == n) && decide (p.al ≤ st.av))) with
  | false => rw [VQ hh hc] at h; cases h
  | true =>
   unfold kidsS at h;rw [hh, hc] at h;simp only [Bool.and_eq_true, decide_eq_true_eq] at hc;exact ⟨h, fun _ => ⟨hc.1, hc.2.2⟩⟩
noncomputable def YQ (f : PtrD → Option (List PtrD)) : List PtrD → Option (List PtrD)
 | [] => some []
 | p :: r => (f p).bind fun k => (YQ f r).map (k ++ ·)
theorem VR {f : PtrD → Option (List PtrD)} {p : PtrD} {r : List PtrD} (h : f p = none) : YQ f (p :: r) = none := by show Option.bind _ _ = _; rw [h]; rfl
theorem Zap {f : PtrD → Option (List PtrD)} {p : PtrD} {r k : List PtrD} (h : f p = some k) : YQ f (p :: r) = (YQ f r).map (k ++ ·) := by show Option.bind _ _ = _; rw [h]; rfl
theorem Znn {o : Option (List PtrD)} (a b : List PtrD) : (o.map (b ++ ·)).map (a ++ ·) = o.map ((a ++ b) ++ ·) := by cases o <;> simp
theorem ZcZ {f g : PtrD → Option (List PtrD)} : ∀ {l : List PtrD}, (∀ p ∈ l, f p = g p) → YQ f l = YQ g l
 | [], _ => rfl
 | p :: r, h => by
  show Option.bind _ _ = Option.bind _ _;rw [h p (mem_cons_self ..), ZcZ fun q hq => h q (mem_cons_of_mem _ hq)]
theorem Zco {f : PtrD → Option (List PtrD)} : ∀ {l m : List PtrD}, YQ f l = some m → (∀ p ∈ l, ∃ k, f p = some k) ∧ (∀ q ∈ m, ∃ p ∈ l, ∃ k, f p = some k ∧ q ∈ k) ∧ (∀ p ∈ l, ∀ k, f p = some k → ∀ q ∈ k, q ∈ m)
 | [], m, h => by
  obtain rfl : [] = m := Option.some.inj h;exact ⟨fun p hp => (nomatch hp), fun p hp => (nomatch hp), fun p hp => (nomatch hp)⟩
 | p :: r, m, h => by
  cases hk : f p with
  | none => rw [VR hk] at h; cases h
  | some k =>
   rw [Zap hk] at h
   cases hn : YQ f r with
   | none => rw [hn] at h; cases h
   | some n =>
    rw [hn] at h;obtain rfl : k ++ n = m := Option.some.inj h;obtain ⟨i1, i2, i3⟩ := Zco hn;refine ⟨fun q hq => ?_, fun q hq => ?_, fun q hq k2 hk2 x hx => ?_⟩
    ·rcases mem_cons.1 hq with rfl | hq
     ·exact ⟨k, hk⟩
     ·exact i1 q hq
    ·rcases mem_append.1 hq with hq | hq
     ·exact ⟨p, mem_cons_self .., k, hk, hq⟩
     ·obtain ⟨y, hy, z, hz, hq⟩ := i2 q hq
      exact ⟨y, mem_cons_of_mem _ hy, z, hz, hq⟩
    ·rcases mem_cons.1 hq with rfl | hq
     ·rw [hk] at hk2
      obtain rfl := Option.some.inj hk2;exact mem_append_left _ hx
     ·exact mem_append_right _ (i3 q hq k2 hk2 x hx)
theorem Zfi {f : PtrD → Option (List PtrD)} (hf : ∀ p k, f p = some k → k.length = 4) : ∀ {l m : List PtrD}, YQ f l = some m → m.length = 4 * l.length
 | [], m, h => by obtain rfl : [] = m := Option.some.inj h; rfl
 | p :: r, m, h => by
  cases hk : f p with
  | none => rw [VR hk] at h; cases h
  | some k =>
   rw [Zap hk] at h
   cases hn : YQ f r with
   | none => rw [hn] at h; cases h
   | some n =>
    rw [hn] at h;obtain rfl : k ++ n = m := Option.some.inj h;have := Zfi hf hn;rw [length_append, hf p k hk, length_cons]; omega
noncomputable def downL (f : PtrD → Int → Option (List PtrD)) : Nat → List PtrD → Option (List PtrD)
 | 0, l => some l
 | n + 1, l => (YQ (fun p => f p ((n + 1 : Nat) : Int)) l).bind (downL f n)
theorem JZ {f : PtrD → Int → Option (List PtrD)} {n : Nat} {l : List PtrD} (h : YQ (fun p => f p ((n + 1 : Nat) : Int)) l = none) : downL f (n + 1) l = none := by show Option.bind _ _ = _; rw [h]; rfl
theorem JE {f : PtrD → Int → Option (List PtrD)} {n : Nat} {l m : List PtrD} (h : YQ (fun p => f p ((n + 1 : Nat) : Int)) l = some m) : downL f (n + 1) l = downL f n m := by show Option.bind _ _ = _; rw [h]; rfl
theorem Zcp {f : PtrD → Int → Option (List PtrD)} (hf : ∀ p n k, f p n = some k → k.length = 4) : ∀ {n : Nat} {l m : List PtrD}, downL f n l = some m → m.length = 4 ^ n * l.length
 | 0, l, m, h => by obtain rfl : l = m := Option.some.inj h; omega
 | n + 1, l, m, h => by
  cases hn : YQ (fun p => f p ((n + 1 : Nat) : Int)) l with
  | none => rw [JZ hn] at h; cases h
  | some x =>
   rw [JE hn] at h;rw [Zcp hf h, Zfi (fun p k => hf p _ k) hn, Nat.pow_succ, Nat.mul_assoc]
def depthN (many : Int) : Nat := if many ≤ 1 then 0 else if many ≤ 4 then 1 else 2
theorem YR (many : Int) : depthN many ≤ 2 := by unfold depthN; split <;> (try split) <;> omega
theorem ZaZ {many : Int} (h : many ≤ 16) : many ≤ ((4 ^ depthN many : Nat) : Int) := by
 unfold depthN
 split
 ·simp; omega
 ·split
  ·simp; omega
  ·simp; omega
def Zhd (st : Za) (many : Int) (i : Nat) (p : PtrD) : Bool := bif p.hole then p.aq == 0 else XP st p && ((p.aq == 0) && decide ((i : Int) < many))
def Jc (st : Za) (many : Int) : Nat → List PtrD → Bool
 | _, [] => true
 | i, p :: r => Zhd st many i p && Jc st many (i + 1) r
def topB (st : Za) (t : Ze) : Bool := inB t.ai 0 16 && ((t.aw == (depthN t.ai : Int)) && (t.af.ok && decide (t.af.al ≤ st.av)))
noncomputable def leavesF (st : Za) (t : Ze) : Option (List PtrD) :=
 bif topB st t then (downL (kids st) (depthN t.ai) [t.af]).bind fun l => bif Jc st t.ai 0 l then some (l.take t.ai.toNat) else none else none
noncomputable def VS (st : Za) (t : Ze) : Bool := (leavesF st t).isSome
theorem VT {st : Za} {t : Ze} (h : topB st t = false) : leavesF st t = none := by unfold leavesF; rw [h]; rfl
theorem ZbN {st : Za} {t : Ze} (h : downL (kids st) (depthN t.ai) [t.af] = none) : leavesF st t = none := by
 unfold leavesF
 cases topB st t
 ·rfl
 ·rw [h]; rfl
theorem Zc0 {st : Za} {t : Ze} {l : List PtrD} (h : downL (kids st) (depthN t.ai) [t.af] = some l) (hb : Jc st t.ai 0 l = false) : leavesF st t = none := by
 unfold leavesF
 cases topB st t
 ·rfl
 ·rw [h]
  simp only [cond_true, cond_false, Option.bind_some, hb]
theorem VU {st : Za} {t : Ze} {l : List PtrD} (h0 : topB st t = true) (h : downL (kids st) (depthN t.ai) [t.af] = some l) (hb : Jc st t.ai 0 l = true) : leavesF st t = some (l.take t.ai.toNat) := by
 unfold leavesF;rw [h0, h];simp only [cond_true, cond_false, Option.bind_some, hb]
theorem VV {st : Za} {p : PtrD} {n : Int} {k : List PtrD} (h : kids st p n = some k) : k.length = 4 := (QR h).1
theorem Za0 {st : Za} {t : Ze} {r : List PtrD} (h : leavesF st t = some r) : ∃ l, topB st t = true ∧ downL (kids st) (depthN t.ai) [t.af] = some l ∧ Jc st t.ai 0 l = true ∧ r = l.take t.ai.toNat ∧ l.length = 4 ^ depthN t.ai ∧ r.length = t.ai.toNat := by
 cases h0 : topB st t with
 | false => rw [VT h0] at h; cases h
 | true =>
  cases h1 : downL (kids st) (depthN t.ai) [t.af] with
  | none => rw [ZbN h1] at h; cases h
  | some l =>
   cases h2 : Jc st t.ai 0 l with
   | false => rw [Zc0 h1 h2] at h; cases h
   | true =>
    rw [VU h0 h1 h2] at h;obtain rfl := Option.some.inj h;have hl : l.length = 4 ^ depthN t.ai := by rw [Zcp (fun p n k => VV) h1]; simp
    refine ⟨l, rfl, rfl, h2, rfl, hl, ?_⟩;unfold topB at h0;rw [Bool.and_eq_true] at h0;have hi := Zs h0.1;have := ZaZ hi.2;rw [length_take, hl]
    omega
theorem Vh {st : Za} : ∀ {n : Nat} {l : List PtrD}, (∀ p ∈ l, p.ok = true ∧ p.al ≤ st.av) → 0 ≤ st.av → downL (kidsS st) n l = downL (kids st) n l ∧ ∀ m, downL (kids st) n l = some m → ∀ p ∈ m, p.ok = true ∧ p.al ≤ st.av
 | 0, l, h, _ => ⟨rfl, fun m hm p hp => by obtain rfl : l = m := Option.some.inj hm; exact h p hp⟩
 | n + 1, l, h, h0 => by
  have e : YQ (fun p => kidsS st p ((n + 1 : Nat) : Int)) l = YQ (fun p => kids st p ((n + 1 : Nat) : Int)) l := ZcZ fun p hp => JY (h p hp).1 (h p hp).2
  cases hn : YQ (fun p => kids st p ((n + 1 : Nat) : Int)) l with
  | none => rw [JZ (e.trans hn), JZ hn]; exact ⟨rfl, fun m hm => by cases hm⟩
  | some x =>
   rw [JE (e.trans hn), JE hn];refine Vh (fun q hq => ?_) h0;obtain ⟨p, hp, k, hk, hq⟩ := (Zco hn).2.1 q hq;obtain ⟨_, ok, hc⟩ := QR hk;refine ⟨ok q hq, ?_⟩;rcases hc with ⟨_, rfl⟩ | ⟨_, _, _, _, hb⟩
   ·simp only [YI, mem_cons, List.not_mem_nil, or_false, or_self] at hq
    rw [hq]; exact h0
   ·have := hb q hq; have := (h p hp).2; omega
def ZaG (st : Za) (many : Int) (i : Nat) (p : PtrD) : Bool := bif p.hole then true else XP st p && ((p.aq == 0) && (decide (p.al ≤ st.av) && decide ((i : Int) < many)))
def X8 (st : Za) (many : Int) : Nat → List PtrD → Bool
 | _, [] => true
 | i, p :: r => ZaG st many i p && X8 st many (i + 1) r
theorem ZdP {p : PtrD} (h : p.hole = true) : p.aq = 0 := by rw [YP h]; rfl
theorem ZdQ {p : PtrD} (h : p.hole = true) : p.al = 0 := by rw [YP h]; rfl
theorem ZlX {st : Za} {many : Int} {i : Nat} {p : PtrD} (h : p.al ≤ st.av) : ZaG st many i p = Zhd st many i p := by
 unfold ZaG Zhd
 cases hh : p.hole with
 | true => show true = (p.aq == 0); rw [ZdP hh]; rfl
 | false => rw [decide_eq_true h, Bool.true_and]; rfl
theorem ZdR {st : Za} {many : Int} : ∀ {i : Nat} {l : List PtrD}, (∀ p ∈ l, p.al ≤ st.av) → X8 st many i l = Jc st many i l
 | _, [], _ => rfl
 | i, p :: r, h => by
  show (_ && _) = (_ && _);rw [ZlX (h p (mem_cons_self ..)), ZdR fun q hq => h q (mem_cons_of_mem _ hq)]
def Za1 (t : Ze) : Bool := inB t.ai 0 16 && ((t.aw == (depthN t.ai : Int)) && t.af.ok)
noncomputable def okS (st : Za) (t : Ze) : Bool := Za1 t && match downL (kidsS st) (depthN t.ai) [t.af] with | none => false | some l => X8 st t.ai 0 l
theorem Zdp {st : Za} {t : Ze} (h : Za1 t = false) : okS st t = false := by unfold okS; rw [h]; rfl
theorem ZdS {st : Za} {t : Ze} (h : downL (kidsS st) (depthN t.ai) [t.af] = none) : okS st t = false := by unfold okS; rw [h, Bool.and_false]
theorem Za2 {st : Za} {t : Ze} {l : List PtrD} (h0 : Za1 t = true) (h : downL (kidsS st) (depthN t.ai) [t.af] = some l) : okS st t = X8 st t.ai 0 l := by unfold okS; rw [h0, h]; rfl
theorem ZlY {st : Za} {t : Ze} (h0 : 0 ≤ st.av) : okS st t = VS st t := by
 unfold VS
 cases ht : Za1 t with
 | false =>
  rw [Zdp ht, VT (by unfold topB; unfold Za1 at ht; rw [← Bool.and_assoc, ← Bool.and_assoc]; rw [← Bool.and_assoc] at ht; rw [ht]; rfl)]; rfl
 | true =>
  have hok : t.af.ok = true := by unfold Za1 at ht; simp only [Bool.and_eq_true] at ht; exact ht.2.2
  by_cases hb : t.af.al ≤ st.av
  ·have htop : topB st t = true := by unfold topB; unfold Za1 at ht; rw [decide_eq_true hb, Bool.and_true]; exact ht
   obtain ⟨e, hy⟩ := Vh (st := st) (n := depthN t.ai) (l := [t.af]) (fun p hp => by rw [mem_singleton.1 hp]; exact ⟨hok, hb⟩) h0
   cases hd : downL (kids st) (depthN t.ai) [t.af] with
   | none => rw [ZdS (e.trans hd), ZbN hd]; rfl
   | some l =>
    rw [Za2 ht (e.trans hd), ZdR fun p hp => (hy l hd p hp).2]
    cases hl : Jc st t.ai 0 l with
    | true => rw [VU htop hd hl]; rfl
    | false => rw [Zc0 hd hl]; rfl
  ·have htop : topB st t = false := by unfold topB; rw [decide_eq_false hb]; simp
   rw [VT htop];have hh : t.af.hole = false := by
    cases hh : t.af.hole with
    | false => rfl
    | true => have := ZdQ hh; omega
   cases hd : depthN t.ai with
   | zero =>
    rw [Za2 (l := [t.af]) ht (by rw [hd]; rfl)];show (ZaG st t.ai 0 t.af && true) = false;unfold ZaG;rw [hh, decide_eq_false hb]; simp
   | succ n =>
    rw [ZdS (by rw [hd]; exact JZ (VR (VQ hh (by rw [decide_eq_false hb]; simp))))]; rfl
noncomputable def allL (st : Za) : Nat → PtrD → List PtrD
 | 0, p => bif p.hole then [] else [p]
 | n + 1, p => bif p.hole then [] else p :: ((kids st p ((n + 1 : Nat) : Int)).getD []).flatMap (allL st n)
theorem ZV {st : Za} {p : PtrD} (h : p.hole = true) : ∀ n, allL st n p = []
 | 0 => by unfold allL; rw [h]; rfl
 | n + 1 => by unfold allL; rw [h]; rfl
theorem Qz {st : Za} {p : PtrD} (h : p.hole = false) : allL st 0 p = [p] := by unfold allL; rw [h]; rfl
theorem YZ {st : Za} {p : PtrD} {n : Nat} {l : List PtrD} (h : p.hole = false) (hk : kids st p ((n + 1 : Nat) : Int) = some l) : allL st (n + 1) p = p :: l.flatMap (allL st n) := by
 show (bif p.hole then [] else p :: ((kids st p ((n + 1 : Nat) : Int)).getD []).flatMap (allL st n)) = _;rw [h, hk]; rfl
def Wf (st : Za) : Nat → PtrD → Prop
 | 0, p => p.ok = true ∧ p.al ≤ st.av ∧ p.aq = 0 ∧ XP st p = true
 | n + 1, p => p.ok = true ∧ p.al ≤ st.av ∧ ∃ l, kids st p ((n + 1 : Nat) : Int) = some l ∧ ∀ k ∈ l, Wf st n k
theorem Wf.ok {st : Za} : ∀ {n : Nat} {p : PtrD}, Wf st n p → p.ok = true ∧ p.al ≤ st.av
 | 0, _, h => ⟨h.1, h.2.1⟩
 | _ + 1, _, h => ⟨h.1, h.2.1⟩
theorem Wf.level {st : Za} : ∀ {n : Nat} {p : PtrD}, Wf st n p → p.hole = false → p.aq = (n : Int)
 | 0, _, h, _ => h.2.2.1
 | n + 1, p, ⟨_, _, l, hk, _⟩, hh => by
  rcases (QR hk).2.2 with ⟨e, _⟩ | ⟨_, e, _⟩
  ·rw [hh] at e; cases e
  ·exact e
theorem Wf.zero {st : Za} (h0 : 0 ≤ st.av) : ∀ n, Wf st n PtrD.zero
 | 0 => ⟨rfl, h0, rfl, rfl⟩
 | n + 1 => ⟨rfl, h0, YI, JD rfl, fun k hk => by
  simp only [YI, mem_cons, List.not_mem_nil, or_false, or_self] at hk;rw [hk]; exact Wf.zero h0 n⟩
theorem Zf9 : digitVal 58 = none := by decide
theorem Zju {s : ByteArray} {n k : Nat} (h : l1S s n k) (h0 : k ≠ 0) (hc : s.data.toList[k]? = some 58) : k < s.size ∧ Qr (s.extract 0 k) = some n := by
 have hz := Zh s;have hk : k < s.data.toList.length := (List.getElem?_eq_some_iff.1 hc).1;refine ⟨by omega, ?_⟩;rcases h with ⟨h1, h2, h3, _, h5⟩ | ⟨rfl, rfl, _, b, d, h4, h6⟩
 ·have hsz : (s.extract 0 k).size = k := by rw [size_extract]; omega
  have hl : (s.extract 0 k).data.toList = s.data.toList.take k := by rw [Yd]; simp
  refine Zjp (k := k) (.inl ⟨h1, by omega, by rw [hl, List.take_take, Nat.min_self]; exact h3, .inl hsz.symm, fun hx => h5 ⟨hx.1, ?_⟩⟩) h0 hsz.symm;rw [hl] at hx
  match hx2 : s.data.toList, hk with
  | a :: r, _ =>
   rw [hx2] at hx
   match k, h0 with
   | k + 1, _ => exact hx.2
 ·rw [hc] at h4
  obtain rfl := Option.some.inj h4;rw [Zf9] at h6; cases h6
theorem Zga {l : List UInt8} {b : UInt8} (hb : b ∈ l) (hd : digitVal b = none) : ∀ acc, decFrom acc l = none := by
 induction l with
 | nil => cases hb
 | cons c r ih =>
  intro acc;unfold decFrom;rcases mem_cons.1 hb with rfl | hb
  ·rw [hd]
  ·cases digitVal c with
   | none => rfl
   | some d => exact ih hb _
theorem Zno {s : ByteArray} {n k m : Nat} {t : List UInt8} (h : l1S s n k) (hm : m ≤ 999999999) (hs : s.data.toList = (Zy m).data.toList ++ 58 :: t) : k = (Zy m).size ∧ n = m ∧ s.data.toList[k]? = some 58 := by
 have hz := Zh s;have hd9 := JR hm;have hdp := ZdA m;have hdz := Zh (Zy m);have hall := Q2 m;rw [← Yj] at hall;have hlen : s.data.toList.length = (Zy m).data.toList.length + (t.length + 1) := by rw [hs, length_append, length_cons]
 have hcol : s.data.toList[(Zy m).size]? = some 58 := by rw [hs, hdz, List.getElem?_append_right (Nat.le_refl _), Nat.sub_self]; rfl
 have hin : ∀ i, i < (Zy m).size → ∃ b d, s.data.toList[i]? = some b ∧ digitVal b = some d := fun i hi => by
  have hi2 : i < (Zy m).data.toList.length := by omega
  obtain ⟨d, hd⟩ := hall _ (List.getElem_mem hi2);exact ⟨_, d, by rw [hs, List.getElem?_append_left hi2, List.getElem?_eq_getElem hi2], hd⟩
 have hk : k = (Zy m).size := by
  rcases h with ⟨h1, h2, h3, h4, _⟩ | ⟨rfl, rfl, h3, b, d, h4, h6⟩
  ·rcases Nat.lt_trichotomy k (Zy m).size with hlt | he | hgt
   ·obtain ⟨b, d, hb, hd⟩ := hin k hlt
    rcases h4 with h4 | h4 | ⟨c, h4, h6⟩
    ·omega
    ·omega
    ·rw [hb] at h4
     obtain rfl := Option.some.inj h4;rw [hd] at h6; cases h6
   ·exact he
   ·have hmem : (58 : UInt8) ∈ s.data.toList.take k := by
     refine List.mem_of_getElem? (i := (Zy m).size) ?_;rw [List.getElem?_take, if_pos hgt]; exact hcol
    rw [Zga hmem Zf9] at h3; cases h3
  ·rcases Nat.lt_or_ge m 10 with hlt | hge
   ·have h1 : (Zy m).size = 1 := by rw [hdz, Yj, decDigits_one hlt]; rfl
    rw [h1] at hcol;rw [hcol] at h4;obtain rfl := Option.some.inj h4;rw [Zf9] at h6; cases h6
   ·obtain ⟨e, he, h1, h9⟩ := ZcW m hge
    rw [← Yj] at he;have : s.data.toList.head? = (Zy m).data.toList.head? := by
     rw [hs]
     match hq : (Zy m).data.toList, hdp, hdz with
     | a :: r, _, _ => rfl
     | [], hp, hq2 => have hz0 : ([] : List UInt8).length = 0 := rfl; omega
    rw [this, he] at h3;have hv := Option.some.inj h3;have : (UInt8.ofNat (48 + e)).toNat = 48 + e := by rw [UInt8.toNat_ofNat']; omega
    rw [hv] at this;have : (48 : UInt8).toNat = 48 := rfl
    omega
 refine ⟨hk, ?_, by rw [hk]; exact hcol⟩;have hnum := Zju h (by omega) (by rw [hk]; exact hcol);have he : s.extract 0 k = Zy m := Yx (by rw [Yd, hs, hk, hdz]; simp);rw [he, VK hm] at hnum;exact (Option.some.inj hnum.2).symm
theorem X9 {s : ByteArray} (i : Nat) : (s.extract i s.size).data.toList = s.data.toList.drop i := by
 rw [Yd, List.take_of_length_le (by rw [List.length_drop, ← Zh]; exact Nat.le_refl _)]
theorem ZlZ {s : ByteArray} {xs : List ByteArray} {p k n : Nat} (h : Uf s xs (s.extract p s.size)) (hl : l1S (s.extract p s.size) n k) (h0 : k ≠ 0) (hk : p + k < s.size) (hc : s.get! (p + k) = 58) (hn : n ≤ s.size - (p + k + 1)) : Uf s (xs ++ [s.extract (p + k + 1) (p + k + 1 + n)]) (s.extract (p + k + 1 + n) s.size) := by
 have hz := Zh s;have hcol : (s.extract p s.size).data.toList[k]? = some 58 := by rw [X9, List.getElem?_drop, QY hk, hc]
 obtain ⟨hk2, hnum⟩ := Zju hl h0 hcol;have hcut : (s.extract p s.size).data.toList = ((s.extract p s.size).extract 0 k).data.toList ++ 58 :: (s.extract (p + k + 1) s.size).data.toList := by
  rw [Yd (a := s.extract p s.size), X9, X9, List.drop_zero, Nat.sub_zero];have e : (s.data.toList.drop p).drop k = 58 :: s.data.toList.drop (p + k + 1) := by
   rw [List.drop_drop];have hlt : p + k < s.data.toList.length := by omega
   rw [List.drop_eq_getElem_cons hlt];have := QY hk;rw [List.getElem?_eq_getElem hlt] at this;rw [Option.some.inj this, hc]
  rw [← e, List.take_append_drop]
 have hsz : (s.extract (p + k + 1) s.size).size = s.size - (p + k + 1) := by rw [size_extract]; omega
 have := h.step hcut hnum (by omega);have e1 : (s.extract (p + k + 1) s.size).extract 0 n = s.extract (p + k + 1) (p + k + 1 + n) := Yx (by
  rw [Yd, X9, Yd, List.drop_zero]
  congr 1; omega)
 have e2 : (s.extract (p + k + 1) s.size).extract n (s.extract (p + k + 1) s.size).size = s.extract (p + k + 1 + n) s.size := Yx (by
  rw [X9, X9, X9, List.drop_drop])
 rw [e1, e2] at this;exact this
theorem Zgb {s : ByteArray} {xs l : List ByteArray} {p k n : Nat} (h : Uf s xs (s.extract p s.size)) (hl : l1S (s.extract p s.size) n k) (hr : IsRec s l) (hs : s.size ≤ 2048) (hp : p < s.size) : k ≠ 0 ∧ p + k < s.size ∧ s.get! (p + k) = 58 ∧ n ≤ s.size - (p + k + 1) := by
 have hz := Zh s;have hsz : (s.extract p s.size).size = s.size - p := by rw [size_extract]; omega
 have hne : ((s.extract p s.size).toList == (⟨#[]⟩ : ByteArray).toList) = false := by
  cases hq : ((s.extract p s.size).toList == (⟨#[]⟩ : ByteArray).toList) with
  | false => rfl
  | true =>
   have := ZM hq;rw [this] at hsz;have : (⟨#[]⟩ : ByteArray).size = 0 := rfl
   omega
 obtain ⟨y, ws, e1, e2, e3, e4⟩ := h.go hr.is hs hr.many hne;have hy := (XL e3).1;obtain ⟨k1, k2, k3⟩ := Zno hl hy e2;have hp1 := ZdA y.size;have hlen := congrArg length e2;rw [length_append, length_cons, length_append, ← Zh, ← Zh, ← Zh, hsz] at hlen;have hkl : p + k < s.size := by omega
 refine ⟨by omega, hkl, ?_, by omega⟩;rw [X9, List.getElem?_drop, QY hkl] at k3;exact Option.some.inj k3
theorem ZbO {s : ByteArray} {xs : List ByteArray} {p : Nat} (h : Uf s xs (s.extract p s.size)) (hp : ¬ p < s.size) : Z1 xs = s := by
 refine h.done ?_;have : s.extract p s.size = (⟨#[]⟩ : ByteArray) := Yx (by rw [X9, List.drop_eq_nil_of_le (by rw [← Zh]; omega)]);rw [this]; exact beq_self_eq_true _
section
variable {P : Program} {o : Oper} {a : Act} {w : World} {e : TypeId}
theorem Ziu {t : TypeId} {x y z : Operand} (ho : o.op = .slice t x (some y) (some z) none) {g off n cap : Nat} (hx : a.eval x = .slice (some ⟨g, off, none⟩) n cap) {kk kl : IntKind} {m l : Int} (hy : a.eval y = .int kk m) (hz : a.eval z = .int kl l) {size : Nat} (hu : Yv P t = some (e, size)) {k j : Nat} (hm : m = (k : Int)) (hl : l = (j : Int)) (hk : k ≤ j) (hj : j ≤ cap) (hc : k < cap) : Yl P w o a (.slice (some ⟨g, off + k * size, none⟩) (j - k) (cap - k)) := by
 unfold Yv at hu
 split at hu
 ·rename_i e' hu'
  split at hu
  ·rename_i inf hq
   simp only [Option.some.injEq, Prod.mk.injEq] at hu;obtain ⟨_, rfl⟩ := hu;subst hm; subst hl;have h2 : ((k : Int) ≤ (j : Int)) := by omega
   have h4 : ((j : Int) ≤ (cap : Int)) := by omega
   have h3 : ¬ cap = k := by omega
   unfold Yl execOp;simp only [ho, hx, hy, hz, Option.map_some, Option.map_none, Instr.sliceAt, Instr.slice, Sem.run_bind, run_underlying hu' w, Result.andThen_ok];simp [Instr.slice, Instr.sliceBounds, Instr.sliceBound, asIntOf, go_sem, run_underlying hu' w, sizeOf, typeInfo, hq, h2, h3, h4, Addr.add];rw [if_pos hj]
   by_cases hz : k * inf.size = 0
   ·rw [if_pos hz, if_pos hk, hz, Nat.add_zero]
   ·rw [if_neg hz, if_pos hk]
  ·cases hu
 ·cases hu
end
theorem VW {y : ByteArray} {n : Nat} (h : Qr y = some n) : 0 ≤ (n : Int) ∧ (n : Int) ≤ 999999999 ∧ ZI (n : Int) = y := by
 have h1 := XL h;refine ⟨by omega, by omega, ?_⟩;rw [YO (by omega) (by omega), Int.toNat_natCast, h1.2]
structure IsTree (x y z : ByteArray) (t : Ze) : Prop where
  ok : t.af.ok = true
  p : Z2 t.af = x
  d : 0 ≤ t.aw ∧ t.aw ≤ 999999999 ∧ ZI t.aw = y
  m : 0 ≤ t.ai ∧ t.ai ≤ 999999999 ∧ ZI t.ai = z
theorem Jd {m n : Int} {y : ByteArray} (h : 0 ≤ m ∧ m ≤ 999999999 ∧ ZI m = y) (k : 0 ≤ n ∧ n ≤ 999999999 ∧ ZI n = y) : m = n := by
 have h1 := Z5 ⟨h.1, h.2.1⟩;have h2 := Z5 ⟨k.1, k.2.1⟩;rw [h.2.2] at h1;rw [k.2.2, h1] at h2;have := Option.some.inj h2
 omega
theorem IsTree.one {x y z : ByteArray} {t u : Ze} (h : IsTree x y z t) (k : IsTree x y z u) : t = u := by
 have h1 := ZbL h.ok k.ok (h.p.trans k.p.symm);have h2 := Jd h.d k.d;have h3 := Jd h.m k.m
 cases t; cases u
 simp only at h1 h2 h3;rw [h1, h2, h3]
theorem Zcq {y : ByteArray} {n : Int} (h : 0 ≤ n ∧ n ≤ 999999999 ∧ ZI n = y) (hg : Qr y = none) : False := by
 have := Z5 ⟨h.1, h.2.1⟩;rw [h.2.2, hg] at this
 cases this
theorem Zl0 (y : ByteArray) (ys : List ByteArray) : (Z1 (y :: ys)).size = (Zy y.size).size + 1 + y.size + (Z1 ys).size := by
 have h := congrArg length (Xr y ys);rw [← Zh, length_append, length_cons, length_append, ← Zh, ← Zh, ← Zh] at h
 omega
theorem Za3 {y : ByteArray} {ys : List ByteArray} {B : Nat} (h : y.size ≤ 100) (hb : (Z1 ys).size ≤ B) : (Z1 (y :: ys)).size ≤ B + 110 := by
 rw [Zl0];have := JR (n := y.size) (by omega)
 omega
theorem Ziv (a0 : Option Addr) (c0 : Nat) (x y z : ByteArray) (w0 : World) (hT : Vd w0) (hM : Zcm w0) (hE : Zcn w0) (hx : x.size ≤ 4294967280) (hR : Rd Zu 1 w0 a0 3 [x, y, z]) : Calls prog 35 #[.slice a0 3 c0] w0 fun e w' => (∃ t : Ze, IsTree x y z t ∧ e = .returned (.tuple #[tV t, .bool true]) ∧ Below w0.heap.size w0 w') ∨ (∃ t : Ze, (∀ u, IsTree x y z u → False) ∧ e = .returned (.tuple #[tV t, .bool false]) ∧ Below w0.heap.size w0 w') := by
 have HT := Bx.mk hT; have HM := Bx.mk hM; have HE := Bx.mk hE; clear hT hM hE;obtain ⟨g0, o0, r0⟩ := hR.opn; have R0 := Bx.mk r0; clear r0 hR;have E := Bx.mk (St.start w0);refine ent func35 ntmps35 ?_;refine xsr ?_;refine yal z7 E ?_;clear E;intro w1 b1 E;refine xr 1 rfl<|xne<|xsr<|xr 1 rfl<|xy rfl (vxr 9 0 1 rfl (R0.out.ao 0 (by omega)))<|xy rfl (fun a J=>ylo (v := .string x) rfl (J.ev rfl) (R0.out.elem1 E.o (show ([x, y, z] : List _)[0]? = some _ from rfl) rfl)) ?_;refine yc (Zit x _ (HT.o.below E.o.bel) (HM.o.below E.o.bel) (HE.o.below E.o.bel) (by omega)) func59 ?_;rintro _ w2 (⟨p2, hpo2, hpt2, rfl, hb⟩ | ⟨hpn2, rfl, hb⟩);refine ⟨_, rfl, ?_⟩; replace E := Bx.mk (E.o.later hb);clear hb;refine xr 3 rfl ?_;refine yal z5 E ?_;clear E;intro w3 b3 E;refine yst E 0 ?_;clear E;intro w4 E;replace E:=E.nm;refine xr 1 rfl<|xne<|xsr<|xr 1 rfl<|xy rfl (vxr 9 1 1 rfl (R0.out.ao 1 (by omega)))<|xy rfl (fun a J=>ylo (v := .string y) rfl (J.ev rfl) (R0.out.elem1 E.o (show ([x, y, z] : List _)[1]? = some _ from rfl) rfl)) ?_;refine yc (ZJ y _ (HT.o.below E.o.bel) (HE.o.below E.o.bel)) func34 ?_;rintro _ w5 (⟨n4, hg4, rfl, hb⟩ | ⟨hg4, rfl, hb⟩);refine ⟨_, rfl, ?_⟩; replace E := Bx.mk (E.o.later hb);clear hb;refine xr 5 rfl<|xne<|xsr<|xr 1 rfl<|xy rfl (vxr 9 2 1 rfl (R0.out.ao 2 (by omega)))<|xy rfl (fun a J=>ylo (v := .string z) rfl (J.ev rfl) (R0.out.elem1 E.o (show ([x, y, z] : List _)[2]? = some _ from rfl) rfl)) ?_;refine yc (ZJ z _ (HT.o.below E.o.bel) (HE.o.below E.o.bel)) func34 ?_;rintro _ w6 (⟨n5, hg5, rfl, hb⟩ | ⟨hg5, rfl, hb⟩);refine ⟨_, rfl, ?_⟩; replace E := Bx.mk (E.o.later hb);clear hb;refine xr 5 rfl<|xne<|xsr<|Xw 0 5 E rfl rfl<|xr 2 rfl<|xy rfl (vb [.int .i64 p2.aC, .int .i64 p2.al, .int .i64 p2.am, .int .i64 p2.aB, .int .i64 p2.aq, .int .i64 (n4 : Int), .int .i64 (n5 : Int)] rfl)<|xr 7 rfl ?_;refine yst E 1 ?_;clear E;intro w7 E;replace E:=E.nm;refine xr 1 rfl<|xne<|xre ?_;intro a J;refine Zw J results35 (J.resBox rfl (E.o.box 1 rfl) (by kernel_rfl)) (J.res rfl) ?_;exact .inl ⟨⟨p2, (n4 : Int), (n5 : Int)⟩, ⟨hpo2, hpt2, VW hg4, VW hg5⟩, rfl, E.o.bel⟩;refine ⟨_, rfl, ?_⟩; replace E := Bx.mk (E.o.later hb);clear hb;refine xr 5 rfl<|xne<|xsr<|Xw 0 5 E rfl rfl<|xr 2 rfl<|xy rfl (vb [.int .i64 p2.aC, .int .i64 p2.al, .int .i64 p2.am, .int .i64 p2.aB, .int .i64 p2.aq, .int .i64 (n4 : Int), .int .i64 0] rfl)<|xr 7 rfl ?_;refine yst E 1 ?_;clear E;intro w8 E;replace E:=E.nm;refine xr 1 rfl<|xne<|xre ?_;intro a J;refine Zw J results35 (J.resBox rfl (E.o.box 1 rfl) (by kernel_rfl)) (J.res rfl) ?_;exact .inr ⟨⟨⟨p2.aC, p2.al, p2.am, p2.aB, p2.aq⟩, (n4 : Int), 0⟩, fun u hu => Zcq hu.m hg5, rfl, E.o.bel⟩;refine ⟨_, rfl, ?_⟩; replace E := Bx.mk (E.o.later hb);clear hb;refine xr 5 rfl<|xne<|xsr<|xr 1 rfl<|xy rfl (vxr 9 2 1 rfl (R0.out.ao 2 (by omega)))<|xy rfl (fun a J=>ylo (v := .string z) rfl (J.ev rfl) (R0.out.elem1 E.o (show ([x, y, z] : List _)[2]? = some _ from rfl) rfl)) ?_;refine yc (ZJ z _ (HT.o.below E.o.bel) (HE.o.below E.o.bel)) func34 ?_;rintro _ w9 (⟨n6, hg6, rfl, hb⟩ | ⟨hg6, rfl, hb⟩);refine ⟨_, rfl, ?_⟩; replace E := Bx.mk (E.o.later hb);clear hb;refine xr 5 rfl<|xne<|xsr<|Xw 0 5 E rfl rfl<|xr 2 rfl<|xy rfl (vb [.int .i64 p2.aC, .int .i64 p2.al, .int .i64 p2.am, .int .i64 p2.aB, .int .i64 p2.aq, .int .i64 0, .int .i64 (n6 : Int)] rfl)<|xr 7 rfl ?_;refine yst E 1 ?_;clear E;intro w10 E;replace E:=E.nm;refine xr 1 rfl<|xne<|xre ?_;intro a J;refine Zw J results35 (J.resBox rfl (E.o.box 1 rfl) (by kernel_rfl)) (J.res rfl) ?_;exact .inr ⟨⟨⟨p2.aC, p2.al, p2.am, p2.aB, p2.aq⟩, 0, (n6 : Int)⟩, fun u hu => Zcq hu.d hg4, rfl, E.o.bel⟩;refine ⟨_, rfl, ?_⟩; replace E := Bx.mk (E.o.later hb);clear hb;refine xr 5 rfl<|xne<|xsr<|Xw 0 5 E rfl rfl<|xr 2 rfl<|xy rfl (vb [.int .i64 p2.aC, .int .i64 p2.al, .int .i64 p2.am, .int .i64 p2.aB, .int .i64 p2.aq, .int .i64 0, .int .i64 0] rfl)<|xr 7 rfl ?_;refine yst E 1 ?_;clear E;intro w11 E;replace E:=E.nm;refine xr 1 rfl<|xne<|xre ?_;intro a J;refine Zw J results35 (J.resBox rfl (E.o.box 1 rfl) (by kernel_rfl)) (J.res rfl) ?_;exact .inr ⟨⟨⟨p2.aC, p2.al, p2.am, p2.aB, p2.aq⟩, 0, 0⟩, fun u hu => Zcq hu.d hg4, rfl, E.o.bel⟩;refine ⟨_, rfl, ?_⟩; replace E := Bx.mk (E.o.later hb);clear hb;refine xr 3 rfl ?_;refine yal z5 E ?_;clear E;intro w12 b7 E;refine yst E 0 ?_;clear E;intro w13 E;replace E:=E.nm;refine xr 1 rfl<|xne<|xsr<|xr 1 rfl<|xy rfl (vxr 9 1 1 rfl (R0.out.ao 1 (by omega)))<|xy rfl (fun a J=>ylo (v := .string y) rfl (J.ev rfl) (R0.out.elem1 E.o (show ([x, y, z] : List _)[1]? = some _ from rfl) rfl)) ?_;refine yc (ZJ y _ (HT.o.below E.o.bel) (HE.o.below E.o.bel)) func34 ?_;rintro _ w14 (⟨n8, hg8, rfl, hb⟩ | ⟨hg8, rfl, hb⟩);refine ⟨_, rfl, ?_⟩; replace E := Bx.mk (E.o.later hb);clear hb;refine xr 5 rfl<|xne<|xsr<|xr 1 rfl<|xy rfl (vxr 9 2 1 rfl (R0.out.ao 2 (by omega)))<|xy rfl (fun a J=>ylo (v := .string z) rfl (J.ev rfl) (R0.out.elem1 E.o (show ([x, y, z] : List _)[2]? = some _ from rfl) rfl)) ?_;refine yc (ZJ z _ (HT.o.below E.o.bel) (HE.o.below E.o.bel)) func34 ?_;rintro _ w15 (⟨n9, hg9, rfl, hb⟩ | ⟨hg9, rfl, hb⟩);refine ⟨_, rfl, ?_⟩; replace E := Bx.mk (E.o.later hb);clear hb;refine xr 5 rfl<|xne<|xsr<|Xw 0 5 E rfl rfl<|xr 2 rfl<|xy rfl (vb [.int .i64 0, .int .i64 0, .int .i64 0, .int .i64 0, .int .i64 0, .int .i64 (n8 : Int), .int .i64 (n9 : Int)] rfl)<|xr 7 rfl ?_;refine yst E 1 ?_;clear E;intro w16 E;replace E:=E.nm;refine xr 1 rfl<|xne<|xre ?_;intro a J;refine Zw J results35 (J.resBox rfl (E.o.box 1 rfl) (by kernel_rfl)) (J.res rfl) ?_;exact .inr ⟨⟨⟨0, 0, 0, 0, 0⟩, (n8 : Int), (n9 : Int)⟩, fun u hu => hpn2 u.af hu.ok hu.p, rfl, E.o.bel⟩;refine ⟨_, rfl, ?_⟩; replace E := Bx.mk (E.o.later hb);clear hb;refine xr 5 rfl<|xne<|xsr<|Xw 0 5 E rfl rfl<|xr 2 rfl<|xy rfl (vb [.int .i64 0, .int .i64 0, .int .i64 0, .int .i64 0, .int .i64 0, .int .i64 (n8 : Int), .int .i64 0] rfl)<|xr 7 rfl ?_;refine yst E 1 ?_;clear E;intro w17 E;replace E:=E.nm;refine xr 1 rfl<|xne<|xre ?_;intro a J;refine Zw J results35 (J.resBox rfl (E.o.box 1 rfl) (by kernel_rfl)) (J.res rfl) ?_;exact .inr ⟨⟨⟨0, 0, 0, 0, 0⟩, (n8 : Int), 0⟩, fun u hu => hpn2 u.af hu.ok hu.p, rfl, E.o.bel⟩;refine ⟨_, rfl, ?_⟩; replace E := Bx.mk (E.o.later hb);clear hb;refine xr 5 rfl<|xne<|xsr<|xr 1 rfl<|xy rfl (vxr 9 2 1 rfl (R0.out.ao 2 (by omega)))<|xy rfl (fun a J=>ylo (v := .string z) rfl (J.ev rfl) (R0.out.elem1 E.o (show ([x, y, z] : List _)[2]? = some _ from rfl) rfl)) ?_;refine yc (ZJ z _ (HT.o.below E.o.bel) (HE.o.below E.o.bel)) func34 ?_;rintro _ w18 (⟨n10, hg10, rfl, hb⟩ | ⟨hg10, rfl, hb⟩);refine ⟨_, rfl, ?_⟩; replace E := Bx.mk (E.o.later hb);clear hb;refine xr 5 rfl<|xne<|xsr<|Xw 0 5 E rfl rfl<|xr 2 rfl<|xy rfl (vb [.int .i64 0, .int .i64 0, .int .i64 0, .int .i64 0, .int .i64 0, .int .i64 0, .int .i64 (n10 : Int)] rfl)<|xr 7 rfl ?_;refine yst E 1 ?_;clear E;intro w19 E;replace E:=E.nm;refine xr 1 rfl<|xne<|xre ?_;intro a J;refine Zw J results35 (J.resBox rfl (E.o.box 1 rfl) (by kernel_rfl)) (J.res rfl) ?_;exact .inr ⟨⟨⟨0, 0, 0, 0, 0⟩, 0, (n10 : Int)⟩, fun u hu => hpn2 u.af hu.ok hu.p, rfl, E.o.bel⟩;refine ⟨_, rfl, ?_⟩; replace E := Bx.mk (E.o.later hb);clear hb;refine xr 5 rfl<|xne<|xsr<|Xw 0 5 E rfl rfl<|xr 2 rfl<|xy rfl (vb z7 rfl)<|xr 7 rfl ?_;refine yst E 1 ?_;clear E;intro w20 E;replace E:=E.nm;refine xr 1 rfl<|xne<|xre ?_;intro a J;refine Zw J results35 (J.resBox rfl (E.o.box 1 rfl) (by kernel_rfl)) (J.res rfl) ?_;exact .inr ⟨⟨⟨0, 0, 0, 0, 0⟩, 0, 0⟩, fun u hu => hpn2 u.af hu.ok hu.p, rfl, E.o.bel⟩
structure Zb where
  aj : Int
  az : Int
  am : Int
  ah : Ze
abbrev nPL (k l s : Int) (t : Ze) : List Value := [.int .i64 k, .int .i64 l, .int .i64 s, .int .i64 t.af.aC, .int .i64 t.af.al, .int .i64 t.af.am, .int .i64 t.af.aB, .int .i64 t.af.aq, .int .i64 t.aw, .int .i64 t.ai]
abbrev nPV (k l s : Int) (t : Ze) : Value := .agg #[.int .i64 k, .int .i64 l, .int .i64 s, .int .i64 t.af.aC, .int .i64 t.af.al, .int .i64 t.af.am, .int .i64 t.af.aB, .int .i64 t.af.aq, .int .i64 t.aw, .int .i64 t.ai]
abbrev nL (n : Zb) : List Value := [.int .i64 n.aj, .int .i64 n.az, .int .i64 n.am, .int .i64 n.ah.af.aC, .int .i64 n.ah.af.al, .int .i64 n.ah.af.am, .int .i64 n.ah.af.aB, .int .i64 n.ah.af.aq, .int .i64 n.ah.aw, .int .i64 n.ah.ai]
abbrev nV (n : Zb) : Value := .agg #[.int .i64 n.aj, .int .i64 n.az, .int .i64 n.am, .int .i64 n.ah.af.aC, .int .i64 n.ah.af.al, .int .i64 n.ah.af.am, .int .i64 n.ah.af.aB, .int .i64 n.ah.af.aq, .int .i64 n.ah.aw, .int .i64 n.ah.ai]
def Yf (kind : Int) : Int := if kind = 1 then 12 else if kind = 2 then 128 else 0
theorem Ziw : Yf 1 = 12 := rfl
theorem ZbP : Yf 2 = 128 := rfl
theorem Za4 {k : Int} (h1 : k ≠ 1) (h2 : k ≠ 2) : Yf k = 0 := by unfold Yf; rw [if_neg h1, if_neg h2]
def Z6 (kind size : Int) : Int := if Yf kind = 0 ∨ ¬ (0 ≤ size ∧ size ≤ 16 * Yf kind) then -1 else (size + Yf kind - 1) / Yf kind
theorem Za5 {k s : Int} (h : Yf k = 0) : Z6 k s = -1 := if_pos (.inl h)
theorem Um {k s : Int} (h : ¬ (0 ≤ s ∧ s ≤ 16 * Yf k)) : Z6 k s = -1 := if_pos (.inr h)
theorem J0 {k s : Int} (h : Yf k ≠ 0) (h1 : 0 ≤ s) (h2 : s ≤ 16 * Yf k) : Z6 k s = (s + Yf k - 1) / Yf k := if_neg fun e => e.elim h fun e => e ⟨h1, h2⟩
structure Za6 (n : Zb) : Prop where
  many : 0 ≤ Z6 n.aj n.am
  links : 1 ≤ n.az ∧ n.az ≤ if n.aj = 2 then 1 else 9
  tmany : n.ah.ai = Z6 n.aj n.am
  depth : n.ah.aw = ((depthN (Z6 n.aj n.am) : Nat) : Int)
  root : n.ah.af.ok = true
  level : n.ah.af.hole = true ∨ n.ah.af.aq = n.ah.aw
instance (n : Zb) : Decidable (Za6 n) := decidable_of_iff (0 ≤ Z6 n.aj n.am ∧ (1 ≤ n.az ∧ n.az ≤ if n.aj = 2 then 1 else 9) ∧ n.ah.ai = Z6 n.aj n.am ∧ n.ah.aw = ((depthN (Z6 n.aj n.am) : Nat) : Int) ∧ n.ah.af.ok = true ∧ (n.ah.af.hole = true ∨ n.ah.af.aq = n.ah.aw)) ⟨fun ⟨a, b, c, d, e, f⟩ => ⟨a, b, c, d, e, f⟩, fun ⟨a, b, c, d, e, f⟩ => ⟨a, b, c, d, e, f⟩⟩
def Zb.ok (n : Zb) : Bool := decide (Za6 n)
theorem Zb.ok_yes {n : Zb} (h : Za6 n) : n.ok = true := decide_eq_true h
theorem Zb.ok_no {n : Zb} (h : ¬ Za6 n) : n.ok = false := decide_eq_false h
theorem Zb.ok_is {n : Zb} (h : n.ok = true) : Za6 n := of_decide_eq_true h
structure Zok (n : Zb) : Prop where
  kind : n.aj = 1 ∨ n.aj = 2
  links : 1 ≤ n.az ∧ n.az ≤ 9
  size : 0 ≤ n.am ∧ n.am ≤ 16 * Yf n.aj
  is : Z6 n.aj n.am = (n.am + Yf n.aj - 1) / Yf n.aj
  many : 0 ≤ n.ah.ai ∧ n.ah.ai ≤ 16
  depth : 0 ≤ n.ah.aw ∧ n.ah.aw ≤ 2
theorem Za6.small {n : Zb} (h : Za6 n) : Zok n := by
 have hk : n.aj = 1 ∨ n.aj = 2 := by
  by_cases h1 : n.aj = 1
  ·exact .inl h1
  ·by_cases h2 : n.aj = 2
   ·exact .inr h2
   ·have := h.many
    rw [Za5 (Za4 h1 h2)] at this
    omega
 have he : 12 ≤ Yf n.aj ∧ Yf n.aj ≤ 128 := by rcases hk with e | e <;> rw [e] <;> decide
 have hs : 0 ≤ n.am ∧ n.am ≤ 16 * Yf n.aj := by
  by_cases hs : 0 ≤ n.am ∧ n.am ≤ 16 * Yf n.aj
  ·exact hs
  ·have := h.many
   rw [Um hs] at this
   omega
 have hp := J0 (k := n.aj) (by omega) hs.1 hs.2;have hl := h.links;have hm : Z6 n.aj n.am ≤ 16 := by
  rw [hp];have : (n.am + Yf n.aj - 1) / Yf n.aj < 17 := Int.ediv_lt_of_lt_mul (by omega) (by omega)
  omega
 have hd := YR (Z6 n.aj n.am);have h1 := h.many;have h2 := h.tmany;have h3 := h.depth;refine ⟨hk, ⟨hl.1, ?_⟩, hs, hp, by omega, by omega⟩;have := hl.2
 split at this <;> omega
def Zl1 : ByteArray := ⟨#[101, 110, 100]⟩
def Xs (n : Zb) : List ByteArray := [ZI n.aj, ZI n.az, ZI n.am, Z2 n.ah.af, ZI n.ah.aw, ZI n.ah.ai, Zl1]
def Yb (n : Zb) : ByteArray := bif n.ok then (Yk (Xs n)).1 else ByteArray.empty
theorem Qj {n : Zb} (h : n.ok = false) : Yb n = ByteArray.empty := by unfold Yb; rw [h]; rfl
theorem Zcr {n : Zb} (h : n.ok = true) : Yb n = (Yk (Xs n)).1 := by unfold Yb; rw [h]; rfl
theorem Zhe (n : Zb) : (Z1 (Xs n)).size ≤ 1000 := by
 refine Nat.le_trans (Za3 (Nat.le_trans (Yr _) (by decide)) (Za3 (Nat.le_trans (Yr _) (by decide)) (Za3 (Nat.le_trans (Yr _) (by decide)) (Za3 (Nat.le_trans (ZbI _) (by decide)) (Za3 (Nat.le_trans (Yr _) (by decide)) (Za3 (Nat.le_trans (Yr _) (by decide)) (Za3 (y := Zl1) (by decide) (Nat.le_refl (Z1 []).size)))))))) ?_;have h0 : (Z1 []).size = 0 := rfl
 omega
theorem YJ {n : Zb} (h : n.ok = true) : IsRec (Yb n) (Xs n) := by
 rw [Zcr h, YY (by simp only [Xs, length_cons, length_nil]; omega) (Nat.le_trans (Zhe n) (by decide))];exact ⟨rfl, by simp only [Xs, length_cons, length_nil]; omega⟩
theorem YU (n : Zb) : (Yb n).size ≤ 1000 := by
 cases h : n.ok with
 | false => rw [Qj h]; exact Nat.zero_le _
 | true => rw [← (YJ h).is]; exact Zhe n
theorem Zfj {m n : Zb} (hm : m.ok = true) (hn : n.ok = true) (h : Yb m = Yb n) : m = n := by
 have h1 := YJ hm;have h2 := YJ hn;rw [h] at h1;have e := h1.one h2;simp only [Xs, List.cons.injEq, and_true] at e;obtain ⟨e1, e2, e3, e4, e5, e6⟩ := e;have a := (Zb.ok_is hm);have b := (Zb.ok_is hn);have sa := a.small;have sb := b.small;have ea : Yf m.aj ≤ 128 := by rcases sa.kind with e | e <;> rw [e] <;> decide
 have eb : Yf n.aj ≤ 128 := by rcases sb.kind with e | e <;> rw [e] <;> decide
 have k1 := sa.links; have k2 := sa.size; have k3 := sa.many; have k4 := sa.depth; have k5 := sa.kind;have l1 := sb.links; have l2 := sb.size; have l3 := sb.many; have l4 := sb.depth; have l5 := sb.kind;have j1 : m.aj = n.aj := Jd (y := ZI n.aj) ⟨by omega, by omega, e1⟩ ⟨by omega, by omega, rfl⟩;have j2 : m.az = n.az := Jd (y := ZI n.az) ⟨by omega, by omega, e2⟩ ⟨by omega, by omega, rfl⟩;have j3 : m.am = n.am := Jd (y := ZI n.am) ⟨by omega, by omega, e3⟩ ⟨by omega, by omega, rfl⟩;have j4 := ZbL a.root b.root e4;have j5 : m.ah.aw = n.ah.aw := Jd (y := ZI n.ah.aw) ⟨by omega, by omega, e5⟩ ⟨by omega, by omega, rfl⟩;have j6 : m.ah.ai = n.ah.ai := Jd (y := ZI n.ah.ai) ⟨by omega, by omega, e6⟩ ⟨by omega, by omega, rfl⟩;obtain ⟨_, _, _, ⟨_, _, _⟩⟩ := m;obtain ⟨_, _, _, ⟨_, _, _⟩⟩ := n;simp only at j1 j2 j3 j4 j5 j6;rw [j1, j2, j3, j4, j5, j6]
open Classical in
noncomputable def J1 (s : ByteArray) : Option Zb := if h : ∃ n : Zb, n.ok = true ∧ Yb n = s then some h.choose else none
theorem Zaq {s : ByteArray} {n : Zb} (hn : n.ok = true) (h : Yb n = s) : J1 s = some n := by
 have he : ∃ n : Zb, n.ok = true ∧ Yb n = s := ⟨n, hn, h⟩;unfold J1;rw [dif_pos he];have hc := he.choose_spec;rw [Zfj hc.1 hn (hc.2.trans h.symm)]
theorem Zhf {s : ByteArray} (h : ∀ n : Zb, n.ok = true → Yb n = s → False) : J1 s = none := by
 unfold J1;rw [dif_neg fun ⟨n, hn, hs⟩ => h n hn hs]
theorem ZdT {s : ByteArray} {n : Zb} (h : J1 s = some n) : n.ok = true ∧ Yb n = s := by
 unfold J1 at h
 split at h
 ·next he => rw [← Option.some.inj h]; exact he.choose_spec
 ·cases h
theorem Xt {n : Zb} (h : n.ok = true) : Zok n ∧ Qr (ZI n.aj) = some n.aj.toNat ∧ Qr (ZI n.az) = some n.az.toNat ∧ Qr (ZI n.am) = some n.am.toNat ∧ Qr (ZI n.ah.aw) = some n.ah.aw.toNat ∧ Qr (ZI n.ah.ai) = some n.ah.ai.toNat := by
 have sa := (Zb.ok_is h).small;have ea : Yf n.aj ≤ 128 := by rcases sa.kind with e | e <;> rw [e] <;> decide
 have k1 := sa.links; have k2 := sa.size; have k3 := sa.many; have k4 := sa.depth; have k5 := sa.kind;exact ⟨sa, Z5 (by omega), Z5 (by omega), Z5 (by omega), Z5 (by omega), Z5 (by omega)⟩
def Zq.give (s : Zq) (a : Nat) : Zq := { ag := s.ag.set a (s.ag.getD a 0 - 1), au := if s.ag.getD a 0 - 1 = 0 then s.au.set a 0 else s.au }
theorem Zq.give_refs (s : Zq) (a : Nat) : (s.give a).ag.length = s.ag.length := by simp [Zq.give]
theorem Zq.give_last (s : Zq) (a : Nat) : (s.give a).au.length = s.au.length := by unfold Zq.give; dsimp only; split <;> simp
def Yu (rows : List ByteArray) (s : Zq) (a : Nat) : List ByteArray := if s.ag.getD a 0 - 1 = 0 then rows.set a ByteArray.empty else rows
theorem XF (rows : List ByteArray) (s : Zq) (a : Nat) : (Yu rows s a).length = rows.length := by unfold Yu; split <;> simp
def UA (x : List ByteArray × Zq) (p : PtrD) : List ByteArray × Zq := (Yu x.1 x.2 p.aC.toNat, x.2.give p.aC.toNat)
def Yw (x : List ByteArray × Zq) (ps : List PtrD) : List ByteArray × Zq := ps.foldl UA x
theorem Zgc (x : List ByteArray × Zq) (ps : List PtrD) (p : PtrD) : Yw x (ps ++ [p]) = UA (Yw x ps) p := by simp [Yw, List.foldl_append]
theorem Zhg (x : List ByteArray × Zq) (ps : List PtrD) : (Yw x ps).1.length = x.1.length ∧ (Yw x ps).2.ag.length = x.2.ag.length ∧ (Yw x ps).2.au.length = x.2.au.length := by
 unfold Yw
 induction ps generalizing x with
 | nil => exact ⟨rfl, rfl, rfl⟩
 | cons p r ih =>
  obtain ⟨h1, h2, h3⟩ := ih (UA x p);exact ⟨h1.trans (XF _ _ _), h2.trans (Zq.give_refs _ _), h3.trans (Zq.give_last _ _)⟩
theorem Zke (s : Zq) (a i : Nat) (hi : i < s.ag.length) : (s.give a).ag.getD i 0 = s.ag.getD i 0 - if a = i then 1 else 0 := by
 unfold Zq.give;simp only [List.getD, List.getElem?_set]
 by_cases h : a = i
 ·subst h
  simp [hi]
 ·simp [h]
theorem Zgd (x : List ByteArray × Zq) (ps : List PtrD) (hp : ∀ p ∈ ps, 0 ≤ p.aC) (i : Nat) (hi : i < x.2.ag.length) : (Yw x ps).2.ag.getD i 0 = x.2.ag.getD i 0 - (cnt ps i : Int) := by
 unfold Yw
 induction ps generalizing x with
 | nil => simp [cnt]
 | cons p r ih =>
  have h1 := ih (UA x p) (fun q hq => hp q (mem_cons_of_mem _ hq)) (by rw [show (UA x p).2.ag.length = x.2.ag.length from Zq.give_refs _ _]; exact hi);rw [List.foldl_cons, h1, show (UA x p).2 = x.2.give p.aC.toNat from rfl, Zke _ _ _ hi];have h2 : cnt (p :: r) i = (if p.aC = (i : Int) then 1 else 0) + cnt r i := by
   have := Zj [p] r i;rw [List.singleton_append] at this;rw [this]
   congr 1
   by_cases h : p.aC = (i : Int) <;> simp [cnt, h]
  have h0 := hp p mem_cons_self;rw [h2]
  by_cases h : p.aC = (i : Int)
  ·rw [if_pos h, if_pos (by omega)]; push_cast; omega
  ·rw [if_neg h, if_neg (by omega)]; push_cast; omega
def Za.nextOf (st : Za) : Za := { ac := (Yw (st.ac, st.aa) st.ak).1, aa := (Yw (st.ac, st.aa) st.ak).2, av := st.av + 1, ak := [], ax := st.ax, ar := st.ar, aA := st.aA }
end Go.Proofs.YtfhdmfcfcgbgeaaGreatDoor
