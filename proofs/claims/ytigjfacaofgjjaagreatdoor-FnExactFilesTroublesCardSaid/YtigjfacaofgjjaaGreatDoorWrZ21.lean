/- A part of the proof in YtigjfacaofgjjaaGreatDoorWrZ33. -/
import Derived.Shelf.Strconv.Clone
import Derived.Shelf.Strings.Cut
import Derived.Test.YtigjfacaofgjjaaGreatDoorWrZ20
namespace Go.Proofs.YtigjfacaofgjjaaGreatDoor
set_option linter.unusedVariables false
set_option linter.unusedSimpArgs false
set_option maxHeartbeats 1000000
set_option maxRecDepth 100000
open Go.Shelf
def Zif : Go.Shelf.Ren := ⟨fun | 145 => 207 | 217 => 290 | 219 => 277 | 220 => 251 | 224 => 292 | 225 => 291 | 266 => 305 | 267 => 293 | 314 => 306 | n => n, fun | 3 => 3 | 4 => 4 | 5 => 5 | 9 => 9 | 46 => 240 | 51 => 268 | 59 => 228 | 146 => 269 | n => n, fun | 1 => 0 | n => n⟩
theorem Zli : Go.Proofs.Lays.n145 Tryz.prog Zif := {
  mixed := by kernel_rfl
  f145 := Tryz.func207.trans (congrArg some (by kernel_rfl))
  f217 := Tryz.func290.trans (congrArg some (by kernel_rfl))
  f219 := Tryz.func277.trans (congrArg some (by kernel_rfl))
  f220 := Tryz.func251.trans (congrArg some (by kernel_rfl))
  f224 := Tryz.func292.trans (congrArg some (by kernel_rfl))
  f225 := Tryz.func291.trans (congrArg some (by kernel_rfl))
  f266 := Tryz.func305.trans (congrArg some (by kernel_rfl))
  f267 := Tryz.func293.trans (congrArg some (by kernel_rfl))
  f314 := Tryz.func306.trans (congrArg some (by kernel_rfl))
  t3 := Tryz.underlying3
  a3 := Tryz.isAgg3
  z3 := Tryz.sizeOf3
  v3 := Tryz.zeroValue3
  t4 := Tryz.underlying4
  a4 := Tryz.isAgg4
  z4 := Tryz.sizeOf4
  v4 := Tryz.zeroValue4
  t5 := Tryz.underlying5
  a5 := Tryz.isAgg5
  z5 := Tryz.sizeOf5
  v5 := Tryz.zeroValue5
  t9 := Tryz.underlying9
  a9 := Tryz.isAgg9
  z9 := Tryz.sizeOf9
  v9 := Tryz.zeroValue9
  t46 := Tryz.underlying240
  a46 := Tryz.isAgg240
  z46 := Tryz.sizeOf240
  v46 := Tryz.zeroValue240
  t51 := Tryz.underlying268
  a51 := Tryz.isAgg268
  z51 := Tryz.sizeOf268
  v51 := Tryz.zeroValue268
  t59 := Tryz.underlying228
  a59 := Tryz.isAgg228
  z59 := Tryz.sizeOf228
  v59 := Tryz.zeroValue228
  t146 := Tryz.underlying269
  a146 := Tryz.isAgg269
  z146 := Tryz.sizeOf269
  v146 := Tryz.zeroValue269
  g1 := by kernel_rfl }
def Zgd : Go.Shelf.Ren := ⟨fun | 316 => 253 | n => n, fun | 0 => 0 | 3 => 3 | 4 => 4 | 5 => 5 | 9 => 9 | 37 => 153 | 127 => 210 | n => n, fun | n => n⟩
theorem Zlj : Go.Proofs.LaysM.n316 Tryz.prog Zgd := {
  mixed := by kernel_rfl
  f316 := Tryz.func253.trans (congrArg some (by kernel_rfl))
  t0 := Tryz.underlying0
  a0 := Tryz.isAgg0
  z0 := Tryz.sizeOf0
  v0 := Tryz.zeroValue0
  t3 := Tryz.underlying3
  a3 := Tryz.isAgg3
  z3 := Tryz.sizeOf3
  v3 := Tryz.zeroValue3
  t4 := Tryz.underlying4
  a4 := Tryz.isAgg4
  z4 := Tryz.sizeOf4
  v4 := Tryz.zeroValue4
  t9 := Tryz.underlying9
  a9 := Tryz.isAgg9
  z9 := Tryz.sizeOf9
  v9 := Tryz.zeroValue9
  t37 := Tryz.underlying153
  a37 := Tryz.isAgg153
  z37 := Tryz.sizeOf153
  v37 := Tryz.zeroValue153
  t127 := Tryz.underlying210
  a127 := Tryz.isAgg210
  z127 := Tryz.sizeOf210
  v127 := Tryz.zeroValue210
  t5 := Tryz.underlying5
  a5 := Tryz.isAgg5
  z5 := Tryz.sizeOf5
  v5 := Tryz.zeroValue5
  i0 := by kernel_rfl
  i3 := by kernel_rfl
  i4 := by kernel_rfl
  i5 := by kernel_rfl
  i9 := by kernel_rfl
  i37 := by kernel_rfl
  i127 := by kernel_rfl }
open Go.RowKit
theorem Zmu (s : ByteArray) (w : World) (hM : Je w) (hs : s.size ≤ 4294967280) : Calls Tryz.prog 207 #[.string s, .string ⟨#[58]⟩] w fun e w' => ((58 : UInt8) ∉ s.data.toList ∧ (∃ b a : ByteArray, e = .returned (.tuple #[.string b, .string a, .bool false])) ∧ Below w.heap.size w w') ∨ (∃ num tail : ByteArray, s.data.toList = num.data.toList ++ 58 :: tail.data.toList ∧ (58 : UInt8) ∉ num.data.toList ∧ e = .returned (.tuple #[.string num, .string tail, .bool true]) ∧ Below w.heap.size w w') := by
  obtain ⟨m, hm⟩ := hM;refine (Any.strings_Cut Zli s ⟨#[58]⟩ m w (by omega) hm).mono ?_;rintro e w' ⟨rfl, n, rfl⟩;rcases Zfl 58 s.data.toList with ⟨h1, h2⟩ | ⟨d, t, h1, h2, h3⟩
  · refine .inl ⟨h1, ⟨⟨(Go.Lib.cut s.data.toList [58]).1.toArray⟩, ⟨(Go.Lib.cut s.data.toList [58]).2.1.toArray⟩, ?_⟩, ZM _ _ _⟩
    show Ending.returned (.tuple #[_, _, .bool (Go.Lib.cut s.data.toList [58]).2.2]) = _;rw [h2]
  · refine .inr ⟨⟨d.toArray⟩, ⟨t.toArray⟩, h1, h2, ?_, ZM _ _ _⟩
    show Ending.returned (.tuple #[.string ⟨(Go.Lib.cut s.data.toList [58]).1.toArray⟩, .string ⟨(Go.Lib.cut s.data.toList [58]).2.1.toArray⟩, .bool (Go.Lib.cut s.data.toList [58]).2.2]) = _;rw [h3]
theorem ZdL (s : ByteArray) (w0 : World) (hs : s.size ≤ 281474976710656) : Calls Tryz.prog 209 #[.string s] w0 fun e w' => e = .returned (.string s) ∧ Below w0.heap.size w0 w' := by
 have HS := Bx.mk (St.start w0);refine Zk Tryz.func209 rfl Tryz.ntmps209 [(0, .string s)] ⟨rfl, trivial⟩ rfl ?_;refine xsr<|xr 1 rfl<|xne<|xsr<|xr 1 rfl ?_;intro a HF;refine ycB (Any.stringslite_Clone Zlj s _ (by omega)) HF Tryz.func253 HS ?_; clear HF HS a; intro w1 a HS HF;revert a;refine xr 1 rfl<|xne<|xre<|xb1 Tryz.results209 rfl ?_;exact ⟨rfl, HS.out.bel⟩
theorem ZeM (s : ByteArray) (w0 : World) (hT : Qg w0) (hM : Je w0) (hE : Jn w0) (hs : s.size ≤ 9223372036854775807) : Calls Tryz.prog 249 #[.string s] w0 fun e w' => (∃ xs, IsRec s xs ∧ s.size ≤ 2048 ∧ ∃ ao cp, e = .returned (.tuple #[.slice ao xs.length cp, .bool true]) ∧ St w0 [Zg Zl 1 9 (.slice ao xs.length cp) xs] w') ∨ ((∀ l, IsRec s l → s.size ≤ 2048 → False) ∧ e = .returned (.tuple #[.slice none 0 0, .bool false]) ∧ Below w0.heap.size w0 w') := by
 have HT := Bx.mk hT; have HM := Bx.mk hM; have HE := Bx.mk hE; clear hT hM hE;have HS := Bx.mk (St.start w0);refine Zk Tryz.func249 rfl Tryz.ntmps249 [(0, .string s)] ⟨rfl, trivial⟩ rfl ?_;refine xsr<|xr 2 rfl<|xne<|xsq<|xsr<|xr 1 rfl<|xy rfl (fun a HF=>Z6 rfl (HF.ev rfl) (by kernel_rfl))<|xr 1 rfl<|xne<|xcs 13 rfl (fun cc1=>?_) fun cc1=>?_;have dcc1 := of_decide_eq_true cc1;refine xct rfl<|xsr<|xr 2 rfl<|xne<|xre<|xtr<|xb2 Tryz.results249 rfl rfl ?_;exact .inr ⟨fun l h h2 => absurd h2 (by omega), rfl, HS.out.bel⟩;have dcc1 := of_decide_eq_false cc1;refine xcf rfl<|xsk<|xet<|xsq ?_;have hsz : s.size ≤ 2048 := by omega
 refine xrl<|xr 1 rfl<|xne<|xsq<|xsr<|xr 2 rfl<|xne<|xbl ?_;replace HS := Bx.mk (HS.out.nilRow Zl 1 9 none);intro a HF;refine ZN (ι := Nat) (fun k a w => ∃ (ao : Option Addr) (cp : Nat) (xs : List ByteArray) (rest : ByteArray), (k = rest.size ∧ JP s xs rest ∧ xs.length ≤ 60) ∧ Fr 56 a [(0, .string s), (4, .slice ao xs.length cp), (5, .string rest)] ∧ St w0 ([Zg Zl 1 9 (.slice ao xs.length cp) xs]) w) (fun k => k) s.size ⟨_, _, [], s, ⟨rfl, JP.zero s, Nat.zero_le _⟩, HF.less _ ⟨rfl, rfl, rfl, trivial⟩, HS.out⟩ ?_;clear HF HS; clear a;rintro k a w1 ⟨ao, cp, xs, rest, ⟨hkr, hto, hxl⟩, HF, HS⟩;replace HS := Bx.mk HS;have hrs := hto.size;revert a;refine xsq<|xsr<|xr 1 rfl<|xy rfl (fun a HF=>X0 rfl (HF.ev rfl) (HF.ev rfl))<|xne<|xcs 16 rfl (fun cc2=>?_) fun cc2=>?_
 have hre : (rest.toList == (⟨#[]⟩ : ByteArray).toList) = false := by simpa using cc2
 refine xct rfl<|xsk<|xet<|xbl<|xsr<|xr 1 rfl ?_;intro a HF;refine yc (Zmu rest _ (HM.out.below HS.out.bel) (by omega)) HF Tryz.func207 ?_;rintro _ w2 (⟨h58, ⟨cb, ca, rfl⟩, hb⟩ | ⟨num, tail, hcut, h58, rfl, hb⟩);refine ⟨_, rfl, ?_⟩; replace HS := Bx.mk (HS.out.later hb);clear hb HF a;refine xr 7 rfl<|xne<|xsr<|xr 1 rfl ?_;intro a HF;refine yc (ZE cb _ (HT.out.below HS.out.bel) (HE.out.below HS.out.bel)) HF Tryz.func208 ?_;rintro _ w3 (⟨n, hng, rfl, hb⟩ | ⟨hng, rfl, hb⟩);refine ⟨_, rfl, ?_⟩; replace HS := Bx.mk (HS.out.later hb);clear hb HF a;refine xr 5 rfl<|xne<|xsq<|xsr<|xr 17 rfl<|xne<|xct rfl<|xsr<|xr 2 rfl<|xne<|xre<|xtr<|xbr<|xtr<|xbr<|xtr<|xb2 Tryz.results249 rfl rfl ?_;refine .inr ⟨fun l h h2 => ?_, rfl, HS.out.bel⟩;obtain ⟨y, ws, e1, e2, e3, e4⟩ := hto.go h.is h2 h.many hre;exact h58 (by rw [e2]; simp);refine ⟨_, rfl, ?_⟩; replace HS := Bx.mk (HS.out.later hb);clear hb HF a;refine xr 5 rfl<|xne<|xsq<|xsr<|xr 17 rfl<|xne<|xct rfl<|xsr<|xr 2 rfl<|xne<|xre<|xtr<|xbr<|xtr<|xbr<|xtr<|xb2 Tryz.results249 rfl rfl ?_;refine .inr ⟨fun l h h2 => ?_, rfl, HS.out.bel⟩;obtain ⟨y, ws, e1, e2, e3, e4⟩ := hto.go h.is h2 h.many hre;exact h58 (by rw [e2]; simp);refine ⟨_, rfl, ?_⟩; replace HS := Bx.mk (HS.out.later hb);clear hb HF a;intro a HF;have htl : tail.size ≤ 2048 := by have h1 := congrArg List.length hcut; rw [List.length_append, List.length_cons] at h1; have h2 := Zj rest; have h3 := Zj tail; have h4 := hto.size; omega
 revert a;refine xr 7 rfl<|xne<|xsr<|xr 1 rfl ?_;intro a HF;refine yc (ZE num _ (HT.out.below HS.out.bel) (HE.out.below HS.out.bel)) HF Tryz.func208 ?_;rintro _ w4 (⟨n, hng, rfl, hb⟩ | ⟨hng, rfl, hb⟩);refine ⟨_, rfl, ?_⟩; replace HS := Bx.mk (HS.out.later hb);clear hb HF a;refine xr 5 rfl<|xne<|xsq<|xsr<|xr 9 rfl<|xy rfl (fun a HF=>Z6 rfl (HF.ev rfl) (by kernel_rfl))<|xr 3 rfl<|xcs 40 rfl (fun cc3=>?_) fun cc3=>?_;have dcc3 := of_decide_eq_true cc3;refine xr 4 rfl<|xne<|xct rfl<|xsr<|xr 2 rfl<|xne<|xre<|xtr<|xbr<|xtr<|xbr<|xtr<|xb2 Tryz.results249 rfl rfl ?_;refine .inr ⟨fun l h h2 => ?_, rfl, HS.out.bel⟩;obtain ⟨y, ws, e1, e2, e3, e4⟩ := hto.go h.is h2 h.many hre;have e5 := Zgc (Ui y.size) h58 (e2.symm.trans hcut);rw [Yn e5.1] at e3; have e6 := Option.some.inj (e3.symm.trans hng); have e7 := congrArg List.length e5.2; rw [List.length_append] at e7; have e8 := Zj y; have e9 := Zj tail; omega;have dcc3 := of_decide_eq_false cc3;refine xr 1 rfl<|xy rfl (vn 9 1 rfl)<|xr 2 rfl<|xne<|xcs 44 rfl (fun cc4=>?_) fun cc4=>?_;have dcc4 := eq_of_beq cc4;refine xct rfl<|xsr<|xr 2 rfl<|xne<|xre<|xtr<|xbr<|xtr<|xbr<|xtr<|xb2 Tryz.results249 rfl rfl ?_;refine .inr ⟨fun l h h2 => ?_, rfl, HS.out.bel⟩;obtain ⟨y, ws, e1, e2, e3, e4⟩ := hto.go h.is h2 h.many hre;have e5 := Zgc (Ui y.size) h58 (e2.symm.trans hcut);rw [Yn e5.1] at e3; have e6 := Option.some.inj (e3.symm.trans hng); have e7 := congrArg List.length e5.2; rw [List.length_append] at e7; have e8 := Zj y; have e9 := Zj tail; omega;have dcc4 := ne_of_beq_false cc4;refine xcf rfl<|xsk<|xet<|xsr<|xr 3 rfl<|xy rfl (fun a HF=>ZdF (k := n) rfl (HF.ev rfl) (HF.ev rfl) (by kernel_rfl) (by omega) (by omega)) ?_;intro a HF;refine ycB (ZdL (tail.extract 0 n) _ (by rw [ByteArray.size_extract]; omega)) HF Tryz.func209 HS ?_; clear HF HS a; intro w5 a HS HF;refine ybs Zl 9 1 [tail.extract 0 n] HF HS ?_;clear HF HS a;intro b1 a w6 HF HS;refine yap YK encS_len HS 1 HF (St.rdN HS.out encS_len 0 rfl) (Zv _) ?_;clear HF HS a;intro ao2 cp3 w7 a HF HS
 try dsimp only [List.eraseIdx] at HS
 revert a;refine xr 1 rfl<|xne<|xrl<|xr 2 rfl<|xy rfl (fun a HF=>Zaj (k := n) rfl (HF.ev rfl) (HF.ev rfl) (by kernel_rfl) (by omega) (by omega))<|xr 1 rfl<|xni<|xeb<|xet ?_;have hz : xs.length + ([tail.extract 0 n]).length = (xs ++ ([tail.extract 0 n])).length := (List.length_append ..).symm;intro a HF;rw [hz] at HS HF;have hto2 := hto.step hcut hng (by omega);have hlt : (tail.extract n tail.size).size < rest.size := by have h1 := congrArg List.length hcut; rw [List.length_append, List.length_cons] at h1; have h2 := Zj rest; have h3 := Zj tail; rw [ByteArray.size_extract]; omega
 replace HS:=Bx.mk (HS.out.pick 1 rfl);exact ⟨(tail.extract n tail.size).size, ⟨_, _, xs ++ ([tail.extract 0 n]), tail.extract n tail.size, ⟨rfl, hto2, by rw [List.length_append, List.length_cons, List.length_nil]; omega⟩, HF.less _ ⟨rfl, rfl, rfl, trivial⟩, (HS.out.erase 1)⟩, (by rw [hkr]; exact hlt)⟩;refine ⟨_, rfl, ?_⟩; replace HS := Bx.mk (HS.out.later hb);clear hb HF a;refine xr 5 rfl<|xne<|xsq<|xsr<|xr 17 rfl<|xne<|xct rfl<|xsr<|xr 2 rfl<|xne<|xre<|xtr<|xbr<|xtr<|xbr<|xtr<|xb2 Tryz.results249 rfl rfl ?_;refine .inr ⟨fun l h h2 => ?_, rfl, HS.out.bel⟩;obtain ⟨y, ws, e1, e2, e3, e4⟩ := hto.go h.is h2 h.many hre;have e5 := Zgc (Ui y.size) h58 (e2.symm.trans hcut);rw [Yn e5.1] at e3; rw [e3] at hng; cases hng;have hre : (rest.toList == (⟨#[]⟩ : ByteArray).toList) = true := by simpa using cc2
 refine xcf rfl<|xex<|xtx<|xtx<|xbh<|xet<|xsr<|xr 3 rfl<|xne<|xre<|xb2 Tryz.results249 rfl rfl ?_;replace HS:=Bx.mk (HS.out.pick 0 rfl);exact .inl ⟨xs, ⟨hto.done hre, hxl⟩, hsz, _, _, rfl, HS.out⟩
open Go.RowKit
theorem Zlk (n : Nat) : ∀ x ∈ (ZJ n).data.toList, x ≠ 46 := by
  intro x hx e;subst e;rw [Yg] at hx;obtain ⟨d, hd⟩ := QV n 46 hx;obtain ⟨h1, h10⟩ := QU hd;have hn : (UInt8.ofNat (48 + d)).toNat = 48 + d := by rw [UInt8.toNat_ofNat']; omega
  rw [← h1] at hn;have : (46 : UInt8).toNat = 46 := rfl
  omega
theorem Vf {n : Int} (h : 0 ≤ n ∧ n ≤ 999999999) : ∀ x ∈ (Zw n).data.toList, x ≠ 46 := by rw [YO h.1 h.2]; exact Zlk _
theorem Za7 {a : ByteArray} (h : ∀ x ∈ a.data.toList, x ≠ 46) (b : ByteArray) : Zi (a ++ (ZcN ++ b)) 46 = a :: Zi b 46 := by
  unfold Zi;rw [ZO, ZO, show ZcN.data.toList = [46] from rfl, List.singleton_append, QS 46 _ _ h, List.map_cons]
theorem Zge {a : ByteArray} (h : ∀ x ∈ a.data.toList, x ≠ 46) : Zi a 46 = [a] := by
  unfold Zi;rw [Jc 46 _ h, List.map_cons, List.map_nil]
theorem Zfm (a b c : ByteArray) : a ++ b ++ c = a ++ (b ++ c) := Yn (by simp only [ZO, List.append_assoc])
theorem Yu {p : PtrD} (h : p.ok = true) (hh : p.hole = false) : Zi (ZY p) 46 = [Zw p.fAt, Zw p.fBirth, Zw p.fSize, Zw p.fSum, Zw p.fLevel] := by
  have hb := PtrD.ok_all h hh;rw [Vc h hh];simp only [Zfm];rw [Za7 (Vf (by omega)), Za7 (Vf (by omega)), Za7 (Vf (by omega)), Za7 (Vf (by omega)), Zge (Vf (by omega))]
theorem Yb {n : Int} (h : 0 ≤ n ∧ n ≤ 999999999) : Qi (Zw n) = some n.toNat := by rw [YO h.1 h.2]; exact Va (by omega)
theorem Uj {n : Int} {m : Nat} (h : 0 ≤ n ∧ n ≤ 999999999) (hg : Qi (Zw n) = some m) : (m : Int) = n := by
  rw [Yb h] at hg;have := Option.some.inj hg
  omega
theorem VM {p : PtrD} (h : p.hole = true) : p = PtrD.zero := by
  unfold PtrD.hole at h;simp only [Bool.and_eq_true, beq_iff_eq] at h;obtain ⟨⟨⟨⟨h1, h2⟩, h3⟩, h4⟩, h5⟩ := h
  cases p
  simp only at h1 h2 h3 h4 h5;subst h1; subst h2; subst h3; subst h4; subst h5
  rfl
theorem Qz {p : PtrD} {s : ByteArray} (h : p.ok = true) (hs : ZY p = s) (hd : (s.toList == (⟨#[45]⟩ : ByteArray).toList) = false) : p.hole = false := by
  cases hh : p.hole with
  | false => rfl
  | true =>
    rw [Qr h hh] at hs;rw [← hs, show ((⟨#[45]⟩ : ByteArray).toList == (⟨#[45]⟩ : ByteArray).toList) = true from beq_self_eq_true _] at hd
    cases hd
theorem Zof {α : Type} {l : List α} (h : l.length = 5) : ∃ a b c d e, l = [a, b, c, d, e] := by
  match l, h with
  | [a, b, c, d, e], _ => exact ⟨a, b, c, d, e, rfl⟩
theorem Za8 {p q : PtrD} (hp : p.ok = true) (hq : q.ok = true) (h : ZY p = ZY q) : p = q := by
  cases h1 : p.hole with
  | true =>
    cases h2 : q.hole with
    | true => rw [VM h1, VM h2]
    | false =>
      have := Yu hq h2;rw [← h, Qr hp h1] at this;exact absurd (congrArg List.length this) (show ¬ (1 : Nat) = 5 by decide)
  | false =>
    cases h2 : q.hole with
    | true =>
      have := Yu hp h1;rw [h, Qr hq h2] at this;exact absurd (congrArg List.length this) (show ¬ (1 : Nat) = 5 by decide)
    | false =>
      have e1 := Yu hp h1;have e2 := Yu hq h2;rw [h, e2] at e1;have hb := PtrD.ok_all hp h1;have hc := PtrD.ok_all hq h2;simp only [List.cons.injEq, and_true] at e1;obtain ⟨k1, k2, k3, k4, k5⟩ := e1;have num : ∀ {m n : Int}, 0 ≤ m ∧ m ≤ 999999999 → 0 ≤ n ∧ n ≤ 999999999 → Zw m = Zw n → n = m := fun hm hn e => by
        have := Yb hm;rw [e, Yb hn] at this;have := Option.some.inj this
        omega
      have j1 := num (by omega) (by omega) k1;have j2 := num (by omega) (by omega) k2;have j3 := num (by omega) (by omega) k3;have j4 := num (by omega) (by omega) k4;have j5 := num (by omega) (by omega) k5
      cases p; cases q
      simp only at j1 j2 j3 j4 j5;subst j1; subst j2; subst j3; subst j4; subst j5
      rfl
theorem ZdM (s : ByteArray) (w0 : World) (hT : Qg w0) (hM : Je w0) (hE : Jn w0) (hs : s.size ≤ 4294967280) : Calls Tryz.prog 263 #[.string s] w0 fun e w' => (∃ p : PtrD, p.ok = true ∧ ZY p = s ∧ e = .returned (.tuple #[pV p, .bool true]) ∧ Below w0.heap.size w0 w') ∨ ((∀ p : PtrD, p.ok = true → ZY p = s → False) ∧ e = .returned (.tuple #[az5, .bool false]) ∧ Below w0.heap.size w0 w') := by
 have HT := Bx.mk hT; have HM := Bx.mk hM; have HE := Bx.mk hE; clear hT hM hE;have HS := Bx.mk (St.start w0);refine Zk Tryz.func263 rfl Tryz.ntmps263 [(0, .string s)] ⟨rfl, trivial⟩ rfl ?_;refine xsr ?_;intro a HF;refine yal z5 HF HS ?_;clear HF HS a;intro a w1 b1 HF HS;revert a;refine xr 1 rfl<|xne<|xsq<|xsr<|xr 1 rfl<|xy rfl (fun a HF=>UB rfl (HF.ev rfl) (HF.ev rfl))<|xne<|xcs 12 rfl (fun cc1=>?_) fun cc1=>?_
 refine xct rfl<|xsr<|xy rfl (vb z5 rfl) ?_;intro a HF;refine yst HF HS 0 ?_;clear HS;intro w2 HS
 try dsimp only [List.set] at HS
 revert a;refine xr 1 rfl<|xne<|xre<|xtr ?_;intro a HF;refine ZS HF Tryz.results263 (HF.resBox rfl (HS.out.box 0 rfl) (by kernel_rfl)) (HF.res rfl) ?_;exact .inl ⟨PtrD.zero, by decide, (Qr (by decide) (by decide)).trans (ZR cc1).symm, rfl, HS.out.bel⟩;refine xcf rfl<|xsk<|xet<|xsr ?_;intro a HF;refine yal z5 HF HS ?_;clear HF HS a;intro a w3 b2 HF HS;revert a;refine xne<|xsr<|xr 1 rfl ?_;intro a HF;refine yc (Zfj s 46 _ (by omega) (HM.out.below HS.out.bel)) HF Tryz.func167 ?_;rintro _ w4 ⟨ao3, cp3, rfl, hs⟩;refine ⟨_, rfl, ?_⟩;replace HS := Bx.mk (HS.out.add hs);clear hs HF a;intro a HF
 try dsimp only [List.eraseIdx] at HS
 revert a;refine xr 1 rfl<|xne<|xsr ?_;intro a HF;refine yc (Zfi b2 _) HF Tryz.func248 ?_;rintro _ w5 ⟨ao4, cp4, rfl, hs⟩;refine ⟨_, rfl, ?_⟩;replace HS := Bx.mk (HS.out.add hs);clear hs HF a;intro a HF
 try dsimp only [List.eraseIdx] at HS
 revert a;refine xr 1 rfl<|xne<|xsq<|xsr<|xr 1 rfl<|xy rfl (vn 9 1 rfl)<|xr 1 rfl<|xy rfl (vn 261 1 rfl)<|xr 1 rfl<|xne<|xcs 21 rfl (fun cc2=>?_) fun cc2=>?_
 have dcc2 := bne_iff_ne.1 cc2;refine xct rfl<|xsr<|xy rfl (vb z5 rfl) ?_;intro a HF;refine yst HF HS 3 ?_;clear HS;intro w6 HS
 try dsimp only [List.set] at HS
 revert a;refine xr 1 rfl<|xne<|xre<|xtr ?_;intro a HF;refine ZS HF Tryz.results263 (HF.resBox rfl (HS.out.box 3 rfl) (by kernel_rfl)) (HF.res rfl) ?_;refine .inr ⟨fun q hq hqs => ?_, rfl, HS.out.bel⟩;have hqh := Qz hq hqs (by simpa using cc1); have hqp := Yu hq hqh; rw [hqs] at hqp; have hqb := PtrD.ok_all hq hqh;rw [hqp] at dcc2; exact dcc2 rfl;have dcc2 := bne_eq_false_iff_eq.1 cc2;refine xcf rfl<|xsk<|xet<|xsq<|xsq ?_;intro a HF;obtain ⟨x0, x1, x2, x3, x4, hws⟩ := Zof (l := Zi s 46) (by omega); rw [hws] at HS HF;replace HF : Fr 51 a [(0, .string s), (2, .pointer (some ⟨b1, 0, none⟩)), (3, .bool false), (11, .string s), (12, .bool false), (4, .pointer (some ⟨b2, 0, none⟩)), (14, .string s), (15, .slice ao3 5 cp3), (5, .slice ao3 5 cp3), (16, .slice ao4 5 cp4), (6, .slice ao4 5 cp4), (17, .slice ao3 5 cp3), (19, .slice ao4 5 cp4), (20, .int .i64 (5 : Int)), (21, .bool false)] := HF.less _ ⟨rfl, rfl, rfl, rfl, rfl, rfl, rfl, rfl, rfl, rfl, rfl, rfl, rfl, rfl, rfl, trivial⟩
 try dsimp only [List.eraseIdx] at HS
 obtain ⟨g5, rfl, _, _, _, _⟩ := HS.out.rowOpen 1 rfl (Nat.succ_pos _);obtain ⟨g6, rfl, _, _, _, _⟩ := HS.out.rowOpen 0 rfl (Nat.succ_pos _);revert a;refine xrl<|xr 1 rfl<|xy rfl (vn 9 1 rfl)<|xr 1 rfl<|xne<|xbl ?_;intro a HF;refine ZbO 6 ?_;revert a;refine xsr<|xr 1 rfl<|xne<|xsq ?_;intro a HF;replace HF := HF.know (k := 26) (c := true) rfl (by decide);revert a;refine xct rfl<|xsk<|xet<|xsq<|xbl<|xsr<|xr 1 rfl<|xy rfl (vx 9 0 1 rfl)<|xy rfl (ve encS_len HS.out 1 0 rfl rfl rfl rfl)<|xr 2 rfl<|xne<|xsr<|xr 1 rfl ?_;intro a HF;refine yc (ZE x0 _ (HT.out.below HS.out.bel) (HE.out.below HS.out.bel)) HF Tryz.func208 ?_;rintro _ w7 (⟨n7, hg7, rfl, hb⟩ | ⟨hg7, rfl, hb⟩);refine ⟨_, rfl, ?_⟩; replace HS := Bx.mk (HS.out.later hb);clear hb HF a;refine xr 5 rfl<|xne<|xsq<|xsr<|xr 2 rfl<|xne<|xcf rfl<|xsk<|xet<|xrl<|xr 2 rfl<|xy rfl (vx 261 0 1 rfl)<|xy rfl (ve YX HS.out 0 0 rfl rfl rfl rfl)<|xr 2 rfl ?_;intro a HF;refine ZQ rfl rfl rfl (HF.ev rfl) (HF.ev rfl) (by kernel_rfl) HS.out 2 rfl rfl rfl ?_; clear HS; intro w8 HS; replace HS := Bx.mk HS
 try dsimp only [List.set] at HS
 revert a;refine xni<|xeb<|xet<|xrl<|xy rfl (fun a HF=>Xc (r := 1) rfl (HF.ev rfl) (HF.ev rfl) (by decide))<|xr 1 rfl<|xne ?_;intro a HF;refine Xf 5 ?_;revert a;refine xsr<|xr 1 rfl<|xne<|xsq ?_;intro a HF;replace HF := HF.know (k := 26) (c := true) rfl (by decide);revert a;refine xct rfl<|xsk<|xet<|xsq<|xbl<|xsr<|xr 1 rfl<|xy rfl (vx 9 1 1 rfl)<|xy rfl (ve encS_len HS.out 1 1 rfl rfl rfl rfl)<|xr 2 rfl<|xne<|xsr<|xr 1 rfl ?_;intro a HF;refine yc (ZE x1 _ (HT.out.below HS.out.bel) (HE.out.below HS.out.bel)) HF Tryz.func208 ?_;rintro _ w9 (⟨n8, hg8, rfl, hb⟩ | ⟨hg8, rfl, hb⟩);refine ⟨_, rfl, ?_⟩; replace HS := Bx.mk (HS.out.later hb);clear hb HF a;refine xr 5 rfl<|xne<|xsq<|xsr<|xr 2 rfl<|xne<|xcf rfl<|xsk<|xet<|xrl<|xr 2 rfl<|xy rfl (vx 261 1 1 rfl)<|xy rfl (ve YX HS.out 0 1 rfl rfl rfl rfl)<|xr 2 rfl ?_;intro a HF;refine ZQ rfl rfl rfl (HF.ev rfl) (HF.ev rfl) (by kernel_rfl) HS.out 2 rfl rfl rfl ?_; clear HS; intro w10 HS; replace HS := Bx.mk HS
 try dsimp only [List.set] at HS
 revert a;refine xni<|xeb<|xet<|xrl<|xy rfl (fun a HF=>Xc (r := 2) rfl (HF.ev rfl) (HF.ev rfl) (by decide))<|xr 1 rfl<|xne ?_;intro a HF;refine Xf 4 ?_;revert a;refine xsr<|xr 1 rfl<|xne<|xsq ?_;intro a HF;replace HF := HF.know (k := 26) (c := true) rfl (by decide);revert a;refine xct rfl<|xsk<|xet<|xsq<|xbl<|xsr<|xr 1 rfl<|xy rfl (vx 9 2 1 rfl)<|xy rfl (ve encS_len HS.out 1 2 rfl rfl rfl rfl)<|xr 2 rfl<|xne<|xsr<|xr 1 rfl ?_;intro a HF;refine yc (ZE x2 _ (HT.out.below HS.out.bel) (HE.out.below HS.out.bel)) HF Tryz.func208 ?_;rintro _ w11 (⟨n9, hg9, rfl, hb⟩ | ⟨hg9, rfl, hb⟩);refine ⟨_, rfl, ?_⟩; replace HS := Bx.mk (HS.out.later hb);clear hb HF a;refine xr 5 rfl<|xne<|xsq<|xsr<|xr 2 rfl<|xne<|xcf rfl<|xsk<|xet<|xrl<|xr 2 rfl<|xy rfl (vx 261 2 1 rfl)<|xy rfl (ve YX HS.out 0 2 rfl rfl rfl rfl)<|xr 2 rfl ?_;intro a HF;refine ZQ rfl rfl rfl (HF.ev rfl) (HF.ev rfl) (by kernel_rfl) HS.out 2 rfl rfl rfl ?_; clear HS; intro w12 HS; replace HS := Bx.mk HS
 try dsimp only [List.set] at HS
 revert a;refine xni<|xeb<|xet<|xrl<|xy rfl (fun a HF=>Xc (r := 3) rfl (HF.ev rfl) (HF.ev rfl) (by decide))<|xr 1 rfl<|xne ?_;intro a HF;refine Xf 3 ?_;revert a;refine xsr<|xr 1 rfl<|xne<|xsq ?_;intro a HF;replace HF := HF.know (k := 26) (c := true) rfl (by decide);revert a;refine xct rfl<|xsk<|xet<|xsq<|xbl<|xsr<|xr 1 rfl<|xy rfl (vx 9 3 1 rfl)<|xy rfl (ve encS_len HS.out 1 3 rfl rfl rfl rfl)<|xr 2 rfl<|xne<|xsr<|xr 1 rfl ?_;intro a HF;refine yc (ZE x3 _ (HT.out.below HS.out.bel) (HE.out.below HS.out.bel)) HF Tryz.func208 ?_;rintro _ w13 (⟨n10, hg10, rfl, hb⟩ | ⟨hg10, rfl, hb⟩);refine ⟨_, rfl, ?_⟩; replace HS := Bx.mk (HS.out.later hb);clear hb HF a;refine xr 5 rfl<|xne<|xsq<|xsr<|xr 2 rfl<|xne<|xcf rfl<|xsk<|xet<|xrl<|xr 2 rfl<|xy rfl (vx 261 3 1 rfl)<|xy rfl (ve YX HS.out 0 3 rfl rfl rfl rfl)<|xr 2 rfl ?_;intro a HF;refine ZQ rfl rfl rfl (HF.ev rfl) (HF.ev rfl) (by kernel_rfl) HS.out 2 rfl rfl rfl ?_; clear HS; intro w14 HS; replace HS := Bx.mk HS
 try dsimp only [List.set] at HS
 revert a;refine xni<|xeb<|xet<|xrl<|xy rfl (fun a HF=>Xc (r := 4) rfl (HF.ev rfl) (HF.ev rfl) (by decide))<|xr 1 rfl<|xne ?_;intro a HF;refine Xf 2 ?_;revert a;refine xsr<|xr 1 rfl<|xne<|xsq ?_;intro a HF;replace HF := HF.know (k := 26) (c := true) rfl (by decide);revert a;refine xct rfl<|xsk<|xet<|xsq<|xbl<|xsr<|xr 1 rfl<|xy rfl (vx 9 4 1 rfl)<|xy rfl (ve encS_len HS.out 1 4 rfl rfl rfl rfl)<|xr 2 rfl<|xne<|xsr<|xr 1 rfl ?_;intro a HF;refine yc (ZE x4 _ (HT.out.below HS.out.bel) (HE.out.below HS.out.bel)) HF Tryz.func208 ?_;rintro _ w15 (⟨n11, hg11, rfl, hb⟩ | ⟨hg11, rfl, hb⟩);refine ⟨_, rfl, ?_⟩; replace HS := Bx.mk (HS.out.later hb);clear hb HF a;refine xr 5 rfl<|xne<|xsq<|xsr<|xr 2 rfl<|xne<|xcf rfl<|xsk<|xet<|xrl<|xr 2 rfl<|xy rfl (vx 261 4 1 rfl)<|xy rfl (ve YX HS.out 0 4 rfl rfl rfl rfl)<|xr 2 rfl ?_;intro a HF;refine ZQ rfl rfl rfl (HF.ev rfl) (HF.ev rfl) (by kernel_rfl) HS.out 2 rfl rfl rfl ?_; clear HS; intro w16 HS; replace HS := Bx.mk HS
 try dsimp only [List.set] at HS
 revert a;refine xni<|xeb<|xet<|xrl<|xy rfl (fun a HF=>Xc (r := 5) rfl (HF.ev rfl) (HF.ev rfl) (by decide))<|xr 1 rfl<|xne ?_;intro a HF;refine Xf 1 ?_;revert a;refine xsr<|xr 1 rfl<|xne<|xsq ?_;intro a HF;replace HF := HF.know (k := 26) (c := false) rfl (by decide);revert a;refine xcf rfl<|xex<|xtx<|xtx<|xbh<|xet<|xsq<|xsr<|xy rfl (vw HS.out 2 5 rfl rfl) ?_;intro a HF;refine ycB (JX (⟨(n7 : Int), (n8 : Int), (n9 : Int), (n10 : Int), (n11 : Int)⟩ : PtrD) _ (HT.out.below HS.out.bel)) HF Tryz.func201 HS ?_; clear HF HS a; intro w17 a HS HF;revert a;refine xr 1 rfl<|xy rfl (fun a HF=>X0 rfl (HF.ev rfl) (HF.ev rfl))<|xne<|xcs 48 rfl (fun cc3=>?_) fun cc3=>?_
 refine xct rfl<|xsr<|xy rfl (vb z5 rfl) ?_;intro a HF;refine yst HF HS 3 ?_;clear HS;intro w18 HS
 try dsimp only [List.set] at HS
 revert a;refine xr 1 rfl<|xne<|xre<|xtr ?_;intro a HF;refine ZS HF Tryz.results263 (HF.resBox rfl (HS.out.box 3 rfl) (by kernel_rfl)) (HF.res rfl) ?_;refine .inr ⟨fun q hq hqs => ?_, rfl, HS.out.bel⟩;have hqh := Qz hq hqs (by simpa using cc1); have hqp := Yu hq hqh; rw [hqs] at hqp; have hqb := PtrD.ok_all hq hqh;rw [hws] at hqp; simp only [List.cons.injEq, and_true] at hqp; obtain ⟨k0, k1, k2, k3, k4⟩ := hqp;rw [k0] at hg7; have j0 := Uj (n := q.fAt) (by omega) hg7;rw [k1] at hg8; have j1 := Uj (n := q.fBirth) (by omega) hg8;rw [k2] at hg9; have j2 := Uj (n := q.fSize) (by omega) hg9;rw [k3] at hg10; have j3 := Uj (n := q.fSum) (by omega) hg10;rw [k4] at hg11; have j4 := Uj (n := q.fLevel) (by omega) hg11;have hpq : (⟨(n7 : Int), (n8 : Int), (n9 : Int), (n10 : Int), (n11 : Int)⟩ : PtrD) = q := by rw [j0, j1, j2, j3, j4]
 rw [hpq, hqs] at cc3; simp at cc3;refine xcf rfl<|xsk<|xet<|xsr<|xy rfl (vw HS.out 2 5 rfl rfl) ?_;intro a HF;refine yst HF HS 3 ?_;clear HS;intro w19 HS
 try dsimp only [List.set] at HS
 revert a;refine xr 1 rfl<|xne<|xre ?_;intro a HF;refine ZS HF Tryz.results263 (HF.resBox rfl (HS.out.box 3 rfl) (by kernel_rfl)) (HF.res rfl) ?_;have hpt : ZY (⟨(n7 : Int), (n8 : Int), (n9 : Int), (n10 : Int), (n11 : Int)⟩ : PtrD) = s := ZR (by simpa using cc3);have hpo : (⟨(n7 : Int), (n8 : Int), (n9 : Int), (n10 : Int), (n11 : Int)⟩ : PtrD).ok = true := by
     cases ho : (⟨(n7 : Int), (n8 : Int), (n9 : Int), (n10 : Int), (n11 : Int)⟩ : PtrD).ok with
     | true => rfl
     | false =>
       rw [Za5 ho] at hpt;rw [← hpt] at hws;exact absurd (congrArg List.length hws) (show ¬ (1 : Nat) = 5 by decide)
 exact .inl ⟨_, hpo, hpt, rfl, HS.out.bel⟩;refine ⟨_, rfl, ?_⟩; replace HS := Bx.mk (HS.out.later hb);clear hb HF a;refine xr 5 rfl<|xne<|xsq<|xsr<|xr 2 rfl<|xne<|xct rfl<|xsr<|xy rfl (vb z5 rfl) ?_;intro a HF;refine yst HF HS 3 ?_;clear HS;intro w20 HS
 try dsimp only [List.set] at HS
 revert a;refine xr 1 rfl<|xne<|xre<|xtr<|xbr<|xtr<|xtr<|xbr<|xtr ?_;intro a HF;refine ZS HF Tryz.results263 (HF.resBox rfl (HS.out.box 3 rfl) (by kernel_rfl)) (HF.res rfl) ?_;refine .inr ⟨fun q hq hqs => ?_, rfl, HS.out.bel⟩;have hqh := Qz hq hqs (by simpa using cc1); have hqp := Yu hq hqh; rw [hqs] at hqp; have hqb := PtrD.ok_all hq hqh;rw [hws] at hqp; simp only [List.cons.injEq, and_true] at hqp; obtain ⟨k0, k1, k2, k3, k4⟩ := hqp;rw [k4, Yb (by omega)] at hg11; cases hg11;refine ⟨_, rfl, ?_⟩; replace HS := Bx.mk (HS.out.later hb);clear hb HF a;refine xr 5 rfl<|xne<|xsq<|xsr<|xr 2 rfl<|xne<|xct rfl<|xsr<|xy rfl (vb z5 rfl) ?_;intro a HF;refine yst HF HS 3 ?_;clear HS;intro w21 HS
 try dsimp only [List.set] at HS
 revert a;refine xr 1 rfl<|xne<|xre<|xtr<|xbr<|xtr<|xtr<|xbr<|xtr ?_;intro a HF;refine ZS HF Tryz.results263 (HF.resBox rfl (HS.out.box 3 rfl) (by kernel_rfl)) (HF.res rfl) ?_;refine .inr ⟨fun q hq hqs => ?_, rfl, HS.out.bel⟩;have hqh := Qz hq hqs (by simpa using cc1); have hqp := Yu hq hqh; rw [hqs] at hqp; have hqb := PtrD.ok_all hq hqh;rw [hws] at hqp; simp only [List.cons.injEq, and_true] at hqp; obtain ⟨k0, k1, k2, k3, k4⟩ := hqp;rw [k3, Yb (by omega)] at hg10; cases hg10;refine ⟨_, rfl, ?_⟩; replace HS := Bx.mk (HS.out.later hb);clear hb HF a;refine xr 5 rfl<|xne<|xsq<|xsr<|xr 2 rfl<|xne<|xct rfl<|xsr<|xy rfl (vb z5 rfl) ?_;intro a HF;refine yst HF HS 3 ?_;clear HS;intro w22 HS
 try dsimp only [List.set] at HS
 revert a;refine xr 1 rfl<|xne<|xre<|xtr<|xbr<|xtr<|xtr<|xbr<|xtr ?_;intro a HF;refine ZS HF Tryz.results263 (HF.resBox rfl (HS.out.box 3 rfl) (by kernel_rfl)) (HF.res rfl) ?_;refine .inr ⟨fun q hq hqs => ?_, rfl, HS.out.bel⟩;have hqh := Qz hq hqs (by simpa using cc1); have hqp := Yu hq hqh; rw [hqs] at hqp; have hqb := PtrD.ok_all hq hqh;rw [hws] at hqp; simp only [List.cons.injEq, and_true] at hqp; obtain ⟨k0, k1, k2, k3, k4⟩ := hqp;rw [k2, Yb (by omega)] at hg9; cases hg9;refine ⟨_, rfl, ?_⟩; replace HS := Bx.mk (HS.out.later hb);clear hb HF a;refine xr 5 rfl<|xne<|xsq<|xsr<|xr 2 rfl<|xne<|xct rfl<|xsr<|xy rfl (vb z5 rfl) ?_;intro a HF;refine yst HF HS 3 ?_;clear HS;intro w23 HS
 try dsimp only [List.set] at HS
 revert a;refine xr 1 rfl<|xne<|xre<|xtr<|xbr<|xtr<|xtr<|xbr<|xtr ?_;intro a HF;refine ZS HF Tryz.results263 (HF.resBox rfl (HS.out.box 3 rfl) (by kernel_rfl)) (HF.res rfl) ?_;refine .inr ⟨fun q hq hqs => ?_, rfl, HS.out.bel⟩;have hqh := Qz hq hqs (by simpa using cc1); have hqp := Yu hq hqh; rw [hqs] at hqp; have hqb := PtrD.ok_all hq hqh;rw [hws] at hqp; simp only [List.cons.injEq, and_true] at hqp; obtain ⟨k0, k1, k2, k3, k4⟩ := hqp;rw [k1, Yb (by omega)] at hg8; cases hg8;refine ⟨_, rfl, ?_⟩; replace HS := Bx.mk (HS.out.later hb);clear hb HF a;refine xr 5 rfl<|xne<|xsq<|xsr<|xr 2 rfl<|xne<|xct rfl<|xsr<|xy rfl (vb z5 rfl) ?_;intro a HF;refine yst HF HS 3 ?_;clear HS;intro w24 HS
 try dsimp only [List.set] at HS
 revert a;refine xr 1 rfl<|xne<|xre<|xtr<|xbr<|xtr<|xtr<|xbr<|xtr ?_;intro a HF;refine ZS HF Tryz.results263 (HF.resBox rfl (HS.out.box 3 rfl) (by kernel_rfl)) (HF.res rfl) ?_;refine .inr ⟨fun q hq hqs => ?_, rfl, HS.out.bel⟩;have hqh := Qz hq hqs (by simpa using cc1); have hqp := Yu hq hqh; rw [hqs] at hqp; have hqb := PtrD.ok_all hq hqh;rw [hws] at hqp; simp only [List.cons.injEq, and_true] at hqp; obtain ⟨k0, k1, k2, k3, k4⟩ := hqp;rw [k0, Yb (by omega)] at hg7; cases hg7
open Go.RowKit Go.Lib
def Zog : ByteArray := ⟨#[44]⟩
def Zmv (l : List PtrD) : ByteArray := Qh (l.map ZY) Zog
theorem Za9 (c : UInt8) : ∀ (x : List UInt8) (r : List (List UInt8)), (∀ y ∈ x :: r, ∀ b ∈ y, b ≠ c) → splitL c (Go.Lib.join (x :: r) [c]) = x :: r
  | x, [], h => by
    rw [show Go.Lib.join [x] [c] = x by simp [Go.Lib.join, Go.Lib.joinTail]];exact Jc c x (h x (List.mem_cons_self ..))
  | x, y :: r, h => by
    have e : Go.Lib.join (x :: y :: r) [c] = x ++ c :: Go.Lib.join (y :: r) [c] := by simp [Go.Lib.join, Go.Lib.joinTail]
    rw [e, QS c _ x (h x (List.mem_cons_self ..)), Za9 c y r fun z hz => h z (List.mem_cons_of_mem _ hz)]
theorem Zg1 {l : List ByteArray} {c : UInt8} (hne : l ≠ []) (h : ∀ y ∈ l, ∀ b ∈ y.data.toList, b ≠ c) : Zi (Qh l ⟨#[c]⟩) c = l := by
  match l, hne with
  | x :: r, _ =>
    unfold Zi Qh;show (splitL c (Go.Lib.join ((x :: r).map (·.data.toList)) [c])).map _ = _;rw [List.map_cons, Za9 c _ _ (fun y hy b hb => by
      rcases List.mem_cons.1 hy with rfl | hy
      · exact h x (List.mem_cons_self ..) b hb
      · obtain ⟨z, hz, rfl⟩ := List.mem_map.1 hy
        exact h z (List.mem_cons_of_mem _ hz) b hb), ← List.map_cons (f := fun y : ByteArray => y.data.toList)]
    exact ZaW (x :: r)
theorem Zmw (c : UInt8) (hc : digitVal c = none) (n : Nat) : ∀ x ∈ (ZJ n).data.toList, x ≠ c := by
  intro x hx e;subst e;obtain ⟨d, hd⟩ := QV n x (by rw [← Yg]; exact hx);rw [hc] at hd
  cases hd
theorem Zgf (c : UInt8) (hc : digitVal c = none) (n : Int) : ∀ x ∈ (Zw n).data.toList, x ≠ c := by
  unfold Zw
  split
  · exact Zmw c hc _
  · intro x hx; simp at hx
theorem Zll (p : PtrD) : ∀ x ∈ (ZY p).data.toList, x ≠ 44 := by
  cases h : p.ok with
  | false => rw [Za5 h]; intro x hx; simp at hx
  | true =>
    cases hh : p.hole with
    | true => rw [Qr h hh]; intro x hx; rw [show x = 45 from by simpa using hx]; decide
    | false =>
      rw [Vc h hh];intro x hx;have hn := fun n => Zgf 44 (by decide) n x
      simp only [ZO, List.mem_append, show ZcN.data.toList = [46] from rfl, List.mem_singleton] at hx;rcases hx with (((((((hx | hx) | hx) | hx) | hx) | hx) | hx) | hx) | hx
      all_goals first | exact hn _ hx | (rw [hx]; decide)
theorem Zam {l : List PtrD} (hne : l ≠ []) : Zi (Zmv l) 44 = l.map ZY := by
  refine Zg1 (by simpa using hne) fun y hy => ?_;obtain ⟨p, _, rfl⟩ := List.mem_map.1 hy;exact Zll p
structure IsFan (s : ByteArray) (l : List PtrD) : Prop where
  n : l.length = 4
  ok : ∀ p ∈ l, p.ok = true
  some : l.all (fun p => p.hole) = false
  is : Zmv l = s
theorem Zi7 {l m : List PtrD} (hl : ∀ p ∈ l, p.ok = true) (hm : ∀ p ∈ m, p.ok = true) (h : l.map ZY = m.map ZY) : l = m := by
  induction l generalizing m with
  | nil => cases m with
    | nil => rfl
    | cons _ _ => simp at h
  | cons p l ih => cases m with
    | nil => simp at h
    | cons q m =>
      simp only [List.map_cons, List.cons.injEq] at h;rw [Za8 (hl p (List.mem_cons_self ..)) (hm q (List.mem_cons_self ..)) h.1, ih (fun x hx => hl x (List.mem_cons_of_mem _ hx)) (fun x hx => hm x (List.mem_cons_of_mem _ hx)) h.2]
theorem IsFan.one {s : ByteArray} {l m : List PtrD} (h : IsFan s l) (k : IsFan s m) : l = m := by
  refine Zi7 h.ok k.ok ?_;rw [← Zam (l := l) (fun e => by have := h.n; rw [e] at this; cases this), ← Zam (l := m) (fun e => by have := k.n; rw [e] at this; cases this), h.is, k.is]
theorem IsFan.pieces {s : ByteArray} {l : List PtrD} (h : IsFan s l) : Zi s 44 = l.map ZY := by
  rw [← h.is];exact Zam fun e => by have := h.n; rw [e] at this; cases this
open Classical in
noncomputable def Zlm (s : ByteArray) : Option (List PtrD) := if h : ∃ l, IsFan s l then some h.choose else none
theorem Zg2 {s : ByteArray} {l : List PtrD} (h : IsFan s l) : Zlm s = some l := by
  have he : ∃ l, IsFan s l := ⟨l, h⟩;unfold Zlm;rw [dif_pos he, he.choose_spec.one h]
theorem Zmx {s : ByteArray} (h : ∀ l, ¬ IsFan s l) : Zlm s = none := by
  unfold Zlm;rw [dif_neg fun ⟨l, hl⟩ => h l hl]
open Go.RowKit
def Qj (p : PtrD) (s : ByteArray) : Bool := p.ok && (!p.hole && ((p.fSize == (s.size : Int)) && (p.fSum == Zi3 s)))
def Vg (st : Zb) (p : PtrD) : ByteArray := st.fRows.getD p.fAt.toNat ByteArray.empty
def Zr (st : Zb) (p : PtrD) : ByteArray := bif p.hole then ByteArray.empty else bif Qj p (Vg st p) then Vg st p else ByteArray.empty
def Xu (st : Zb) (p : PtrD) : Bool := bif p.hole then true else Qj p (Vg st p)
theorem JI {st : Zb} {p : PtrD} (h : p.hole = true) : Zr st p = ByteArray.empty := by unfold Zr; rw [h]; rfl
theorem UI {st : Zb} {p : PtrD} (h : p.hole = true) : Xu st p = true := by unfold Xu; rw [h]; rfl
theorem VN {st : Zb} {p : PtrD} (h : p.hole = false) (hf : Qj p (Vg st p) = true) : Zr st p = Vg st p := by unfold Zr; rw [h, hf]; rfl
theorem ZdN {st : Zb} {p : PtrD} (h : p.hole = false) (hf : Qj p (Vg st p) = false) : Zr st p = ByteArray.empty := by unfold Zr; rw [h, hf]; rfl
theorem Vh {st : Zb} {p : PtrD} (h : p.hole = false) : Xu st p = Qj p (Vg st p) := by unfold Xu; rw [h]; rfl
def JJ : List PtrD := [PtrD.zero, PtrD.zero, PtrD.zero, PtrD.zero]
noncomputable def kids (st : Zb) (p : PtrD) (level : Int) : Option (List PtrD) :=
  bif p.hole then some JJ else bif Xu st p && (p.fLevel == level) then (Zlm (Zr st p)).bind fun l => bif l.any (fun k => decide (p.fBirth < k.fBirth)) then none else some l else none
noncomputable def kidsS (st : Zb) (p : PtrD) (level : Int) : Option (List PtrD) :=
  bif p.hole then some JJ else bif p.ok && ((p.fLevel == level) && decide (p.fBirth ≤ st.fTxg)) then kids st p level else none
theorem Uk {st : Zb} {p : PtrD} {n : Int} (h : p.hole = true) : kids st p n = some JJ := by unfold kids; rw [h]; rfl
theorem ZdO {st : Zb} {p : PtrD} {n : Int} (h : p.hole = true) : kidsS st p n = some JJ := by unfold kidsS; rw [h]; rfl
theorem Vi {st : Zb} {p : PtrD} {n : Int} (h : p.hole = false) (hr : Xu st p = false) : kids st p n = none := by unfold kids; rw [h, hr]; rfl
theorem Zan {st : Zb} {p : PtrD} {n : Int} (h : p.hole = false) (hr : (p.fLevel == n) = false) : kids st p n = none := by unfold kids; rw [h, hr, Bool.and_false]; rfl
theorem Zao {st : Zb} {p : PtrD} {n : Int} (h : p.hole = false) (hf : ∀ l, ¬ IsFan (Zr st p) l) : kids st p n = none := by
  unfold kids;rw [h, Zmx hf]
  cases (Xu st p && (p.fLevel == n)) <;> rfl
theorem ZbR {st : Zb} {p : PtrD} {n : Int} {l : List PtrD} (h : p.hole = false) (hf : IsFan (Zr st p) l) (hb : l.any (fun k => decide (p.fBirth < k.fBirth)) = true) : kids st p n = none := by
  unfold kids;rw [h, Zg2 hf]
  cases (Xu st p && (p.fLevel == n))
  · rfl
  · simp only [cond_true, cond_false, Option.bind_some, hb]
theorem ZdP {st : Zb} {p : PtrD} {n : Int} {l : List PtrD} (h : p.hole = false) (hr : Xu st p = true) (hn : (p.fLevel == n) = true) (hf : IsFan (Zr st p) l) (hb : l.any (fun k => decide (p.fBirth < k.fBirth)) = false) : kids st p n = some l := by
  unfold kids;rw [h, Zg2 hf, hr, hn];simp only [cond_true, cond_false, Option.bind_some, hb, Bool.and_self]
theorem Ul {st : Zb} {p : PtrD} {n : Int} {l : List PtrD} (h : kids st p n = some l) : l.length = 4 ∧ (∀ k ∈ l, k.ok = true) ∧ (p.hole = true ∧ l = JJ ∨ p.hole = false ∧ p.fLevel = n ∧ Xu st p = true ∧ IsFan (Zr st p) l ∧ ∀ k ∈ l, k.fBirth ≤ p.fBirth) := by
  cases hh : p.hole with
  | true =>
    rw [Uk hh] at h;obtain rfl := Option.some.inj h;exact ⟨rfl, fun k hk => by simp only [JJ, List.mem_cons, List.not_mem_nil, or_false, or_self] at hk; rw [hk]; rfl, .inl ⟨rfl, rfl⟩⟩
  | false =>
    cases hr : Xu st p with
    | false => rw [Vi hh hr] at h; cases h
    | true =>
      cases hn : (p.fLevel == n) with
      | false => rw [Zan hh hn] at h; cases h
      | true =>
        by_cases hf : ∃ m, IsFan (Zr st p) m
        · obtain ⟨m, hm⟩ := hf
          cases hb : m.any (fun k => decide (p.fBirth < k.fBirth)) with
          | true => rw [ZbR hh hm hb] at h; cases h
          | false =>
            rw [ZdP hh hr hn hm hb] at h;obtain rfl := Option.some.inj h;refine ⟨hm.n, hm.ok, .inr ⟨rfl, eq_of_beq hn, rfl, hm, fun k hk => ?_⟩⟩;have := (List.any_eq_false.1 hb) k hk;have := of_decide_eq_false (by simpa using this : decide (p.fBirth < k.fBirth) = false)
            omega
        · rw [Zao hh fun l hl => hf ⟨l, hl⟩] at h; cases h
theorem Um {st : Zb} {p : PtrD} {n : Int} (hp : p.ok = true) (hb : p.fBirth ≤ st.fTxg) : kidsS st p n = kids st p n := by
  unfold kidsS;rw [hp, decide_eq_true hb, Bool.and_true, Bool.true_and]
  cases hh : p.hole with
  | true => rw [Uk hh]; rfl
  | false =>
    cases hn : (p.fLevel == n) with
    | false => rw [Zan hh hn]; rfl
    | true => rfl
theorem Vj {st : Zb} {p : PtrD} {n : Int} (h : p.hole = false) (hn : (p.ok && ((p.fLevel == n) && decide (p.fBirth ≤ st.fTxg))) = false) : kidsS st p n = none := by unfold kidsS; rw [h, hn]; rfl
theorem Zfn {st : Zb} {p : PtrD} {n : Int} {l : List PtrD} (h : kidsS st p n = some l) : kids st p n = some l ∧ (p.hole = false → p.ok = true ∧ p.fBirth ≤ st.fTxg) := by
  cases hh : p.hole with
  | true => rw [ZdO hh] at h; rw [Uk hh]; exact ⟨h, fun e => by cases e⟩
  | false =>
    cases hc : (p.ok && ((p.fLevel == n) && decide (p.fBirth ≤ st.fTxg))) with
    | false => rw [Vj hh hc] at h; cases h
    | true =>
      unfold kidsS at h;rw [hh, hc] at h;simp only [Bool.and_eq_true, decide_eq_true_eq] at hc;exact ⟨h, fun _ => ⟨hc.1, hc.2.2⟩⟩
noncomputable def YB (f : PtrD → Option (List PtrD)) : List PtrD → Option (List PtrD)
  | [] => some []
  | p :: r => (f p).bind fun k => (YB f r).map (k ++ ·)
theorem Zba {f : PtrD → Option (List PtrD)} {p : PtrD} {r : List PtrD} (h : f p = none) : YB f (p :: r) = none := by show Option.bind _ _ = _; rw [h]; rfl
theorem ZbS {f : PtrD → Option (List PtrD)} {p : PtrD} {r k : List PtrD} (h : f p = some k) : YB f (p :: r) = (YB f r).map (k ++ ·) := by show Option.bind _ _ = _; rw [h]; rfl
theorem Zmy {o : Option (List PtrD)} (a b : List PtrD) : (o.map (b ++ ·)).map (a ++ ·) = o.map ((a ++ b) ++ ·) := by cases o <;> simp
theorem Zct {f g : PtrD → Option (List PtrD)} : ∀ {l : List PtrD}, (∀ p ∈ l, f p = g p) → YB f l = YB g l
  | [], _ => rfl
  | p :: r, h => by
    show Option.bind _ _ = Option.bind _ _;rw [h p (List.mem_cons_self ..), Zct fun q hq => h q (List.mem_cons_of_mem _ hq)]
theorem VO {f : PtrD → Option (List PtrD)} : ∀ {l m : List PtrD}, YB f l = some m → (∀ p ∈ l, ∃ k, f p = some k) ∧ (∀ q ∈ m, ∃ p ∈ l, ∃ k, f p = some k ∧ q ∈ k) ∧ (∀ p ∈ l, ∀ k, f p = some k → ∀ q ∈ k, q ∈ m)
  | [], m, h => by
    obtain rfl : [] = m := Option.some.inj h;exact ⟨fun p hp => (nomatch hp), fun p hp => (nomatch hp), fun p hp => (nomatch hp)⟩
  | p :: r, m, h => by
    cases hk : f p with
    | none => rw [Zba hk] at h; cases h
    | some k =>
      rw [ZbS hk] at h
      cases hn : YB f r with
      | none => rw [hn] at h; cases h
      | some n =>
        rw [hn] at h;obtain rfl : k ++ n = m := Option.some.inj h;obtain ⟨i1, i2, i3⟩ := VO hn;refine ⟨fun q hq => ?_, fun q hq => ?_, fun q hq k2 hk2 x hx => ?_⟩
        · rcases List.mem_cons.1 hq with rfl | hq
          · exact ⟨k, hk⟩
          · exact i1 q hq
        · rcases List.mem_append.1 hq with hq | hq
          · exact ⟨p, List.mem_cons_self .., k, hk, hq⟩
          · obtain ⟨y, hy, z, hz, hq⟩ := i2 q hq
            exact ⟨y, List.mem_cons_of_mem _ hy, z, hz, hq⟩
        · rcases List.mem_cons.1 hq with rfl | hq
          · rw [hk] at hk2
            obtain rfl := Option.some.inj hk2;exact List.mem_append_left _ hx
          · exact List.mem_append_right _ (i3 q hq k2 hk2 x hx)
theorem Zfo {f : PtrD → Option (List PtrD)} (hf : ∀ p k, f p = some k → k.length = 4) : ∀ {l m : List PtrD}, YB f l = some m → m.length = 4 * l.length
  | [], m, h => by obtain rfl : [] = m := Option.some.inj h; rfl
  | p :: r, m, h => by
    cases hk : f p with
    | none => rw [Zba hk] at h; cases h
    | some k =>
      rw [ZbS hk] at h
      cases hn : YB f r with
      | none => rw [hn] at h; cases h
      | some n =>
        rw [hn] at h;obtain rfl : k ++ n = m := Option.some.inj h;have := Zfo hf hn;rw [List.length_append, hf p k hk, List.length_cons]; omega
noncomputable def downL (f : PtrD → Int → Option (List PtrD)) : Nat → List PtrD → Option (List PtrD)
  | 0, l => some l
  | n + 1, l => (YB (fun p => f p ((n + 1 : Nat) : Int)) l).bind (downL f n)
theorem Jf {f : PtrD → Int → Option (List PtrD)} {n : Nat} {l : List PtrD} (h : YB (fun p => f p ((n + 1 : Nat) : Int)) l = none) : downL f (n + 1) l = none := by show Option.bind _ _ = _; rw [h]; rfl
theorem QW {f : PtrD → Int → Option (List PtrD)} {n : Nat} {l m : List PtrD} (h : YB (fun p => f p ((n + 1 : Nat) : Int)) l = some m) : downL f (n + 1) l = downL f n m := by show Option.bind _ _ = _; rw [h]; rfl
theorem VP {f : PtrD → Int → Option (List PtrD)} (hf : ∀ p n k, f p n = some k → k.length = 4) : ∀ {n : Nat} {l m : List PtrD}, downL f n l = some m → m.length = 4 ^ n * l.length
  | 0, l, m, h => by obtain rfl : l = m := Option.some.inj h; omega
  | n + 1, l, m, h => by
    cases hn : YB (fun p => f p ((n + 1 : Nat) : Int)) l with
    | none => rw [Jf hn] at h; cases h
    | some x =>
      rw [QW hn] at h;rw [VP hf h, Zfo (fun p k => hf p _ k) hn, Nat.pow_succ, Nat.mul_assoc]
def depthN (many : Int) : Nat := if many ≤ 1 then 0 else if many ≤ 4 then 1 else 2
theorem QX (many : Int) : depthN many ≤ 2 := by unfold depthN; split <;> (try split) <;> omega
theorem ZdQ {many : Int} (h : many ≤ 16) : many ≤ ((4 ^ depthN many : Nat) : Int) := by
  unfold depthN
  split
  · simp; omega
  · split
    · simp; omega
    · simp; omega
def JY (st : Zb) (many : Int) (i : Nat) (p : PtrD) : Bool := bif p.hole then p.fLevel == 0 else Xu st p && ((p.fLevel == 0) && decide ((i : Int) < many))
def YP (st : Zb) (many : Int) : Nat → List PtrD → Bool
  | _, [] => true
  | i, p :: r => JY st many i p && YP st many (i + 1) r
def topB (st : Zb) (t : ZL) : Bool := inB t.fMany 0 16 && ((t.fDepth == (depthN t.fMany : Int)) && (t.fRoot.ok && decide (t.fRoot.fBirth ≤ st.fTxg)))
noncomputable def leavesF (st : Zb) (t : ZL) : Option (List PtrD) :=
  bif topB st t then (downL (kids st) (depthN t.fMany) [t.fRoot]).bind fun l => bif YP st t.fMany 0 l then some (l.take t.fMany.toNat) else none else none
noncomputable def QA (st : Zb) (t : ZL) : Bool := (leavesF st t).isSome
theorem XS {st : Zb} {t : ZL} (h : topB st t = false) : leavesF st t = none := by unfold leavesF; rw [h]; rfl
theorem UJ {st : Zb} {t : ZL} (h : downL (kids st) (depthN t.fMany) [t.fRoot] = none) : leavesF st t = none := by
  unfold leavesF
  cases topB st t
  · rfl
  · rw [h]; rfl
theorem Jg {st : Zb} {t : ZL} {l : List PtrD} (h : downL (kids st) (depthN t.fMany) [t.fRoot] = some l) (hb : YP st t.fMany 0 l = false) : leavesF st t = none := by
  unfold leavesF
  cases topB st t
  · rfl
  · rw [h]
    simp only [cond_true, cond_false, Option.bind_some, hb]
theorem Vk {st : Zb} {t : ZL} {l : List PtrD} (h0 : topB st t = true) (h : downL (kids st) (depthN t.fMany) [t.fRoot] = some l) (hb : YP st t.fMany 0 l = true) : leavesF st t = some (l.take t.fMany.toNat) := by
  unfold leavesF;rw [h0, h];simp only [cond_true, cond_false, Option.bind_some, hb]
theorem Vl {st : Zb} {p : PtrD} {n : Int} {k : List PtrD} (h : kids st p n = some k) : k.length = 4 := (Ul h).1
theorem QY {st : Zb} {t : ZL} {r : List PtrD} (h : leavesF st t = some r) : ∃ l, topB st t = true ∧ downL (kids st) (depthN t.fMany) [t.fRoot] = some l ∧ YP st t.fMany 0 l = true ∧ r = l.take t.fMany.toNat ∧ l.length = 4 ^ depthN t.fMany ∧ r.length = t.fMany.toNat := by
  cases h0 : topB st t with
  | false => rw [XS h0] at h; cases h
  | true =>
    cases h1 : downL (kids st) (depthN t.fMany) [t.fRoot] with
    | none => rw [UJ h1] at h; cases h
    | some l =>
      cases h2 : YP st t.fMany 0 l with
      | false => rw [Jg h1 h2] at h; cases h
      | true =>
        rw [Vk h0 h1 h2] at h;obtain rfl := Option.some.inj h;have hl : l.length = 4 ^ depthN t.fMany := by rw [VP (fun p n k => Vl) h1]; simp
        refine ⟨l, rfl, rfl, h2, rfl, hl, ?_⟩;unfold topB at h0;rw [Bool.and_eq_true] at h0;have hi := ZB h0.1;have := ZdQ hi.2;rw [List.length_take, hl]
        omega
theorem Zap {st : Zb} : ∀ {n : Nat} {l : List PtrD}, (∀ p ∈ l, p.ok = true ∧ p.fBirth ≤ st.fTxg) → 0 ≤ st.fTxg → downL (kidsS st) n l = downL (kids st) n l ∧ ∀ m, downL (kids st) n l = some m → ∀ p ∈ m, p.ok = true ∧ p.fBirth ≤ st.fTxg
  | 0, l, h, _ => ⟨rfl, fun m hm p hp => by obtain rfl : l = m := Option.some.inj hm; exact h p hp⟩
  | n + 1, l, h, h0 => by
    have e : YB (fun p => kidsS st p ((n + 1 : Nat) : Int)) l = YB (fun p => kids st p ((n + 1 : Nat) : Int)) l := Zct fun p hp => Um (h p hp).1 (h p hp).2
    cases hn : YB (fun p => kids st p ((n + 1 : Nat) : Int)) l with
    | none => rw [Jf (e.trans hn), Jf hn]; exact ⟨rfl, fun m hm => by cases hm⟩
    | some x =>
      rw [QW (e.trans hn), QW hn];refine Zap (fun q hq => ?_) h0;obtain ⟨p, hp, k, hk, hq⟩ := (VO hn).2.1 q hq;obtain ⟨_, ok, hc⟩ := Ul hk;refine ⟨ok q hq, ?_⟩;rcases hc with ⟨_, rfl⟩ | ⟨_, _, _, _, hb⟩
      · simp only [JJ, List.mem_cons, List.not_mem_nil, or_false, or_self] at hq
        rw [hq]; exact h0
      · have := hb q hq; have := (h p hp).2; omega
def Zaa (st : Zb) (many : Int) (i : Nat) (p : PtrD) : Bool := bif p.hole then true else Xu st p && ((p.fLevel == 0) && (decide (p.fBirth ≤ st.fTxg) && decide ((i : Int) < many)))
def X3 (st : Zb) (many : Int) : Nat → List PtrD → Bool
  | _, [] => true
  | i, p :: r => Zaa st many i p && X3 st many (i + 1) r
theorem ZdR {p : PtrD} (h : p.hole = true) : p.fLevel = 0 := by rw [VM h]; rfl
theorem Zig {p : PtrD} (h : p.hole = true) : p.fBirth = 0 := by rw [VM h]; rfl
theorem Zln {st : Zb} {many : Int} {i : Nat} {p : PtrD} (h : p.fBirth ≤ st.fTxg) : Zaa st many i p = JY st many i p := by
  unfold Zaa JY
  cases hh : p.hole with
  | true => show true = (p.fLevel == 0); rw [ZdR hh]; rfl
  | false => rw [decide_eq_true h, Bool.true_and]; rfl
theorem ZdS {st : Zb} {many : Int} : ∀ {i : Nat} {l : List PtrD}, (∀ p ∈ l, p.fBirth ≤ st.fTxg) → X3 st many i l = YP st many i l
  | _, [], _ => rfl
  | i, p :: r, h => by
    show (_ && _) = (_ && _);rw [Zln (h p (List.mem_cons_self ..)), ZdS fun q hq => h q (List.mem_cons_of_mem _ hq)]
def Zaq (t : ZL) : Bool := inB t.fMany 0 16 && ((t.fDepth == (depthN t.fMany : Int)) && t.fRoot.ok)
noncomputable def okS (st : Zb) (t : ZL) : Bool := Zaq t && match downL (kidsS st) (depthN t.fMany) [t.fRoot] with | none => false | some l => X3 st t.fMany 0 l
theorem Zc6 {st : Zb} {t : ZL} (h : Zaq t = false) : okS st t = false := by unfold okS; rw [h]; rfl
theorem ZdT {st : Zb} {t : ZL} (h : downL (kidsS st) (depthN t.fMany) [t.fRoot] = none) : okS st t = false := by unfold okS; rw [h, Bool.and_false]
theorem Zar {st : Zb} {t : ZL} {l : List PtrD} (h0 : Zaq t = true) (h : downL (kidsS st) (depthN t.fMany) [t.fRoot] = some l) : okS st t = X3 st t.fMany 0 l := by unfold okS; rw [h0, h]; rfl
theorem Zgg {st : Zb} {t : ZL} (h0 : 0 ≤ st.fTxg) : okS st t = QA st t := by
  unfold QA
  cases ht : Zaq t with
  | false =>
    rw [Zc6 ht, XS (by unfold topB; unfold Zaq at ht; rw [← Bool.and_assoc, ← Bool.and_assoc]; rw [← Bool.and_assoc] at ht; rw [ht]; rfl)]; rfl
  | true =>
    have hok : t.fRoot.ok = true := by unfold Zaq at ht; simp only [Bool.and_eq_true] at ht; exact ht.2.2
    by_cases hb : t.fRoot.fBirth ≤ st.fTxg
    · have htop : topB st t = true := by unfold topB; unfold Zaq at ht; rw [decide_eq_true hb, Bool.and_true]; exact ht
      obtain ⟨e, hy⟩ := Zap (st := st) (n := depthN t.fMany) (l := [t.fRoot]) (fun p hp => by rw [List.mem_singleton.1 hp]; exact ⟨hok, hb⟩) h0
      cases hd : downL (kids st) (depthN t.fMany) [t.fRoot] with
      | none => rw [ZdT (e.trans hd), UJ hd]; rfl
      | some l =>
        rw [Zar ht (e.trans hd), ZdS fun p hp => (hy l hd p hp).2]
        cases hl : YP st t.fMany 0 l with
        | true => rw [Vk htop hd hl]; rfl
        | false => rw [Jg hd hl]; rfl
    · have htop : topB st t = false := by unfold topB; rw [decide_eq_false hb]; simp
      rw [XS htop];have hh : t.fRoot.hole = false := by
        cases hh : t.fRoot.hole with
        | false => rfl
        | true => have := Zig hh; omega
      cases hd : depthN t.fMany with
      | zero =>
        rw [Zar (l := [t.fRoot]) ht (by rw [hd]; rfl)];show (Zaa st t.fMany 0 t.fRoot && true) = false;unfold Zaa;rw [hh, decide_eq_false hb]; simp
      | succ n =>
        rw [ZdT (by rw [hd]; exact Jf (Zba (Vj hh (by rw [decide_eq_false hb]; simp))))]; rfl
noncomputable def allL (st : Zb) : Nat → PtrD → List PtrD
  | 0, p => bif p.hole then [] else [p]
  | n + 1, p => bif p.hole then [] else p :: ((kids st p ((n + 1 : Nat) : Int)).getD []).flatMap (allL st n)
theorem ZbT {st : Zb} {p : PtrD} (h : p.hole = true) : ∀ n, allL st n p = []
  | 0 => by unfold allL; rw [h]; rfl
  | n + 1 => by unfold allL; rw [h]; rfl
def Wf (st : Zb) : Nat → PtrD → Prop
  | 0, p => p.ok = true ∧ p.fBirth ≤ st.fTxg ∧ p.fLevel = 0 ∧ Xu st p = true
  | n + 1, p => p.ok = true ∧ p.fBirth ≤ st.fTxg ∧ ∃ l, kids st p ((n + 1 : Nat) : Int) = some l ∧ ∀ k ∈ l, Wf st n k
theorem Wf.ok {st : Zb} : ∀ {n : Nat} {p : PtrD}, Wf st n p → p.ok = true ∧ p.fBirth ≤ st.fTxg
  | 0, _, h => ⟨h.1, h.2.1⟩
  | _ + 1, _, h => ⟨h.1, h.2.1⟩
theorem Wf.level {st : Zb} : ∀ {n : Nat} {p : PtrD}, Wf st n p → p.hole = false → p.fLevel = (n : Int)
  | 0, _, h, _ => h.2.2.1
  | n + 1, p, ⟨_, _, l, hk, _⟩, hh => by
    rcases (Ul hk).2.2 with ⟨e, _⟩ | ⟨_, e, _⟩
    · rw [hh] at e; cases e
    · exact e
theorem Wf.zero {st : Zb} (h0 : 0 ≤ st.fTxg) : ∀ n, Wf st n PtrD.zero
  | 0 => ⟨rfl, h0, rfl, rfl⟩
  | n + 1 => ⟨rfl, h0, JJ, Uk rfl, fun k hk => by
    simp only [JJ, List.mem_cons, List.not_mem_nil, or_false, or_self] at hk;rw [hk]; exact Wf.zero h0 n⟩
theorem Zcu {st : Zb} {many : Int} : ∀ {i : Nat} {l : List PtrD}, YP st many i l = true → ∀ p ∈ l, p.fLevel = 0 ∧ Xu st p = true
  | _, [], _, p, hp => by cases hp
  | i, q :: r, h, p, hp => by
    have h : (JY st many i q && YP st many (i + 1) r) = true := h;rw [Bool.and_eq_true] at h;rcases List.mem_cons.1 hp with rfl | hp
    · have h1 := h.1
      unfold JY at h1
      cases hh : p.hole with
      | true => exact ⟨ZdR hh, UI hh⟩
      | false =>
        rw [hh] at h1;have h1 : (Xu st p && ((p.fLevel == 0) && decide ((i : Int) < many))) = true := h1;simp only [Bool.and_eq_true, beq_iff_eq] at h1;exact ⟨h1.2.1, h1.1⟩
    · exact Zcu h.2 p hp
open Go.RowKit Go.Lib
theorem Zgh : digitVal 58 = none := by decide
theorem Zi8 {s : ByteArray} {n k : Nat} (h : l1S s n k) (h0 : k ≠ 0) (hc : s.data.toList[k]? = some 58) : k < s.size ∧ Qi (s.extract 0 k) = some n := by
  have hz := Zj s;have hk : k < s.data.toList.length := (List.getElem?_eq_some_iff.1 hc).1;refine ⟨by omega, ?_⟩;rcases h with ⟨h1, h2, h3, _, h5⟩ | ⟨rfl, rfl, _, b, d, h4, h6⟩
  · have hsz : (s.extract 0 k).size = k := by rw [ByteArray.size_extract]; omega
    have hl : (s.extract 0 k).data.toList = s.data.toList.take k := by rw [Z1]; simp
    refine Zi5 (k := k) (.inl ⟨h1, by omega, by rw [hl, List.take_take, Nat.min_self]; exact h3, .inl hsz.symm, fun hx => h5 ⟨hx.1, ?_⟩⟩) h0 hsz.symm;rw [hl] at hx
    match hx2 : s.data.toList, hk with
    | a :: r, _ =>
      rw [hx2] at hx
      match k, h0 with
      | k + 1, _ => exact hx.2
  · rw [hc] at h4
    obtain rfl := Option.some.inj h4;rw [Zgh] at h6; cases h6
theorem Zgi {l : List UInt8} {b : UInt8} (hb : b ∈ l) (hd : digitVal b = none) : ∀ acc, decFrom acc l = none := by
  induction l with
  | nil => cases hb
  | cons c r ih =>
    intro acc;unfold decFrom;rcases List.mem_cons.1 hb with rfl | hb
    · rw [hd]
    · cases digitVal c with
      | none => rfl
      | some d => exact ih hb _
theorem Zmz {s : ByteArray} {n k m : Nat} {t : List UInt8} (h : l1S s n k) (hm : m ≤ 999999999) (hs : s.data.toList = (ZJ m).data.toList ++ 58 :: t) : k = (ZJ m).size ∧ n = m ∧ s.data.toList[k]? = some 58 := by
  have hz := Zj s;have hd9 := J8 hm;have hdp := Zdv m;have hdz := Zj (ZJ m);have hall := QV m;rw [← Yg] at hall;have hlen : s.data.toList.length = (ZJ m).data.toList.length + (t.length + 1) := by rw [hs, List.length_append, List.length_cons]
  have hcol : s.data.toList[(ZJ m).size]? = some 58 := by rw [hs, hdz, List.getElem?_append_right (Nat.le_refl _), Nat.sub_self]; rfl
  have hin : ∀ i, i < (ZJ m).size → ∃ b d, s.data.toList[i]? = some b ∧ digitVal b = some d := fun i hi => by
    have hi2 : i < (ZJ m).data.toList.length := by omega
    obtain ⟨d, hd⟩ := hall _ (List.getElem_mem hi2);exact ⟨_, d, by rw [hs, List.getElem?_append_left hi2, List.getElem?_eq_getElem hi2], hd⟩
  have hk : k = (ZJ m).size := by
    rcases h with ⟨h1, h2, h3, h4, _⟩ | ⟨rfl, rfl, h3, b, d, h4, h6⟩
    · rcases Nat.lt_trichotomy k (ZJ m).size with hlt | he | hgt
      · obtain ⟨b, d, hb, hd⟩ := hin k hlt
        rcases h4 with h4 | h4 | ⟨c, h4, h6⟩
        · omega
        · omega
        · rw [hb] at h4
          obtain rfl := Option.some.inj h4;rw [hd] at h6; cases h6
      · exact he
      · have hmem : (58 : UInt8) ∈ s.data.toList.take k := by
          refine List.mem_of_getElem? (i := (ZJ m).size) ?_;rw [List.getElem?_take, if_pos hgt]; exact hcol
        rw [Zgi hmem Zgh] at h3; cases h3
    · rcases Nat.lt_or_ge m 10 with hlt | hge
      · have h1 : (ZJ m).size = 1 := by rw [hdz, Yg, decDigits_one hlt]; rfl
        rw [h1] at hcol;rw [hcol] at h4;obtain rfl := Option.some.inj h4;rw [Zgh] at h6; cases h6
      · obtain ⟨e, he, h1, h9⟩ := Zcp m hge
        rw [← Yg] at he;have : s.data.toList.head? = (ZJ m).data.toList.head? := by
          rw [hs]
          match hq : (ZJ m).data.toList, hdp, hdz with
          | a :: r, _, _ => rfl
          | [], hp, hq2 => have hz0 : ([] : List UInt8).length = 0 := rfl; omega
        rw [this, he] at h3;have hv := Option.some.inj h3;have : (UInt8.ofNat (48 + e)).toNat = 48 + e := by rw [UInt8.toNat_ofNat']; omega
        rw [hv] at this;have : (48 : UInt8).toNat = 48 := rfl
        omega
  refine ⟨hk, ?_, by rw [hk]; exact hcol⟩;have hnum := Zi8 h (by omega) (by rw [hk]; exact hcol);have he : s.extract 0 k = ZJ m := Yn (by rw [Z1, hs, hk, hdz]; simp);rw [he, Va hm] at hnum;exact (Option.some.inj hnum.2).symm
theorem X4 {s : ByteArray} (i : Nat) : (s.extract i s.size).data.toList = s.data.toList.drop i := by
  rw [Z1, List.take_of_length_le (by rw [List.length_drop, ← Zj]; exact Nat.le_refl _)]
theorem Zlo {s : ByteArray} {xs : List ByteArray} {p k n : Nat} (h : JP s xs (s.extract p s.size)) (hl : l1S (s.extract p s.size) n k) (h0 : k ≠ 0) (hk : p + k < s.size) (hc : s.get! (p + k) = 58) (hn : n ≤ s.size - (p + k + 1)) : JP s (xs ++ [s.extract (p + k + 1) (p + k + 1 + n)]) (s.extract (p + k + 1 + n) s.size) := by
  have hz := Zj s;have hcol : (s.extract p s.size).data.toList[k]? = some 58 := by rw [X4, List.getElem?_drop, Jd hk, hc]
  obtain ⟨hk2, hnum⟩ := Zi8 hl h0 hcol;have hcut : (s.extract p s.size).data.toList = ((s.extract p s.size).extract 0 k).data.toList ++ 58 :: (s.extract (p + k + 1) s.size).data.toList := by
    rw [Z1 (a := s.extract p s.size), X4, X4, List.drop_zero, Nat.sub_zero];have e : (s.data.toList.drop p).drop k = 58 :: s.data.toList.drop (p + k + 1) := by
      rw [List.drop_drop];have hlt : p + k < s.data.toList.length := by omega
      rw [List.drop_eq_getElem_cons hlt];have := Jd hk;rw [List.getElem?_eq_getElem hlt] at this;rw [Option.some.inj this, hc]
    rw [← e, List.take_append_drop]
  have hsz : (s.extract (p + k + 1) s.size).size = s.size - (p + k + 1) := by rw [ByteArray.size_extract]; omega
  have := h.step hcut hnum (by omega);have e1 : (s.extract (p + k + 1) s.size).extract 0 n = s.extract (p + k + 1) (p + k + 1 + n) := Yn (by
    rw [Z1, X4, Z1, List.drop_zero]
    congr 1; omega)
  have e2 : (s.extract (p + k + 1) s.size).extract n (s.extract (p + k + 1) s.size).size = s.extract (p + k + 1 + n) s.size := Yn (by
    rw [X4, X4, X4, List.drop_drop])
  rw [e1, e2] at this;exact this
theorem Zgj {s : ByteArray} {xs l : List ByteArray} {p k n : Nat} (h : JP s xs (s.extract p s.size)) (hl : l1S (s.extract p s.size) n k) (hr : IsRec s l) (hs : s.size ≤ 2048) (hp : p < s.size) : k ≠ 0 ∧ p + k < s.size ∧ s.get! (p + k) = 58 ∧ n ≤ s.size - (p + k + 1) := by
  have hz := Zj s;have hsz : (s.extract p s.size).size = s.size - p := by rw [ByteArray.size_extract]; omega
  have hne : ((s.extract p s.size).toList == (⟨#[]⟩ : ByteArray).toList) = false := by
    cases hq : ((s.extract p s.size).toList == (⟨#[]⟩ : ByteArray).toList) with
    | false => rfl
    | true =>
      have := ZR hq;rw [this] at hsz;have : (⟨#[]⟩ : ByteArray).size = 0 := rfl
      omega
  obtain ⟨y, ws, e1, e2, e3, e4⟩ := h.go hr.is hs hr.many hne;have hy := (Xe e3).1;obtain ⟨k1, k2, k3⟩ := Zmz hl hy e2;have hp1 := Zdv y.size;have hlen := congrArg List.length e2;rw [List.length_append, List.length_cons, List.length_append, ← Zj, ← Zj, ← Zj, hsz] at hlen;have hkl : p + k < s.size := by omega
  refine ⟨by omega, hkl, ?_, by omega⟩;rw [X4, List.getElem?_drop, Jd hkl] at k3;exact Option.some.inj k3
theorem Zbb {s : ByteArray} {xs : List ByteArray} {p : Nat} (h : JP s xs (s.extract p s.size)) (hp : ¬ p < s.size) : Z8 xs = s := by
  refine h.done ?_;have : s.extract p s.size = (⟨#[]⟩ : ByteArray) := Yn (by rw [X4, List.drop_eq_nil_of_le (by rw [← Zj]; omega)]);rw [this]; exact beq_self_eq_true _
open Go.RowKit
section
variable {P : Program} {o : Oper} {a : Act} {w : World} {e : TypeId}
theorem Zih {t : TypeId} {x y z : Operand} (ho : o.op = .slice t x (some y) (some z) none) {g off n cap : Nat} (hx : a.eval x = .slice (some ⟨g, off, none⟩) n cap) {kk kl : IntKind} {m l : Int} (hy : a.eval y = .int kk m) (hz : a.eval z = .int kl l) {size : Nat} (hu : Y4 P t = some (e, size)) {k j : Nat} (hm : m = (k : Int)) (hl : l = (j : Int)) (hk : k ≤ j) (hj : j ≤ cap) (hc : k < cap) : Yl P w o a (.slice (some ⟨g, off + k * size, none⟩) (j - k) (cap - k)) := by
  unfold Y4 at hu
  split at hu
  · rename_i e' hu'
    split at hu
    · rename_i inf hq
      simp only [Option.some.injEq, Prod.mk.injEq] at hu;obtain ⟨_, rfl⟩ := hu;subst hm; subst hl;have h2 : ((k : Int) ≤ (j : Int)) := by omega
      have h4 : ((j : Int) ≤ (cap : Int)) := by omega
      have h3 : ¬ cap = k := by omega
      unfold Yl execOp;simp only [ho, hx, hy, hz, Option.map_some, Option.map_none, Instr.sliceAt, Instr.slice, Sem.run_bind, run_underlying hu' w, Result.andThen_ok];simp [Instr.slice, Instr.sliceBounds, Instr.sliceBound, asIntOf, go_sem, run_underlying hu' w, sizeOf, typeInfo, hq, h2, h3, h4, Addr.add];rw [if_pos hj]
      by_cases hz : k * inf.size = 0
      · rw [if_pos hz, if_pos hk, hz, Nat.add_zero]
      · rw [if_neg hz, if_pos hk]
    · cases hu
  · cases hu
end
theorem Vm {y : ByteArray} {n : Nat} (h : Qi y = some n) : 0 ≤ (n : Int) ∧ (n : Int) ≤ 999999999 ∧ Zw (n : Int) = y := by
  have h1 := Xe h;refine ⟨by omega, by omega, ?_⟩;rw [YO (by omega) (by omega), Int.toNat_natCast, h1.2]
structure IsTree (x y z : ByteArray) (t : ZL) : Prop where
  ok : t.fRoot.ok = true
  p : ZY t.fRoot = x
  d : 0 ≤ t.fDepth ∧ t.fDepth ≤ 999999999 ∧ Zw t.fDepth = y
  m : 0 ≤ t.fMany ∧ t.fMany ≤ 999999999 ∧ Zw t.fMany = z
theorem Ja {m n : Int} {y : ByteArray} (h : 0 ≤ m ∧ m ≤ 999999999 ∧ Zw m = y) (k : 0 ≤ n ∧ n ≤ 999999999 ∧ Zw n = y) : m = n := by
  have h1 := Yb ⟨h.1, h.2.1⟩;have h2 := Yb ⟨k.1, k.2.1⟩;rw [h.2.2] at h1;rw [k.2.2, h1] at h2;have := Option.some.inj h2
  omega
theorem IsTree.one {x y z : ByteArray} {t u : ZL} (h : IsTree x y z t) (k : IsTree x y z u) : t = u := by
  have h1 := Za8 h.ok k.ok (h.p.trans k.p.symm);have h2 := Ja h.d k.d;have h3 := Ja h.m k.m
  cases t; cases u
  simp only at h1 h2 h3;rw [h1, h2, h3]
theorem Zas {y : ByteArray} {n : Int} (h : 0 ≤ n ∧ n ≤ 999999999 ∧ Zw n = y) (hg : Qi y = none) : False := by
  have := Yb ⟨h.1, h.2.1⟩;rw [h.2.2, hg] at this
  cases this
theorem Zlp (y : ByteArray) (ys : List ByteArray) : (Z8 (y :: ys)).size = (ZJ y.size).size + 1 + y.size + (Z8 ys).size := by
  have h := congrArg List.length (Xy y ys);rw [← Zj, List.length_append, List.length_cons, List.length_append, ← Zj, ← Zj, ← Zj] at h
  omega
theorem Zat {y : ByteArray} {ys : List ByteArray} {B : Nat} (h : y.size ≤ 100) (hb : (Z8 ys).size ≤ B) : (Z8 (y :: ys)).size ≤ B + 110 := by
  rw [Zlp];have := J8 (n := y.size) (by omega)
  omega
theorem Zcr.all {x : Zcr} (h : x.ok = true) : (1 ≤ x.fTxg ∧ x.fTxg ≤ 900) ∧ x.fMeta.fRoot.ok = true ∧ (0 ≤ x.fMeta.fDepth ∧ x.fMeta.fDepth ≤ 2) ∧ (1 ≤ x.fMeta.fMany ∧ x.fMeta.fMany ≤ 16) := by
  unfold Zcr.ok at h
  cases h1 : inB x.fTxg 1 900 with
  | false => rw [h1] at h; cases h
  | true =>
    cases h2 : x.fMeta.fRoot.ok with
    | false => rw [h1, h2] at h; cases h
    | true =>
      cases h3 : inB x.fMeta.fDepth 0 2 with
      | false => rw [h1, h2, h3] at h; cases h
      | true =>
        rw [h1, h2, h3] at h;have k1 := ZB h1;have k3 := ZB h3;have k4 := ZB (show inB x.fMeta.fMany 1 16 = true from h);exact ⟨by omega, rfl, by omega, by omega⟩
theorem Zii (a0 : Option Addr) (c0 : Nat) (x y z : ByteArray) (w0 : World) (hT : Qg w0) (hM : Je w0) (hE : Jn w0) (hx : x.size ≤ 4294967280) (hR : Rd Zl 1 w0 a0 3 [x, y, z]) : Calls Tryz.prog 250 #[.slice a0 3 c0] w0 fun e w' => (∃ t : ZL, IsTree x y z t ∧ e = .returned (.tuple #[tV t, .bool true]) ∧ Below w0.heap.size w0 w') ∨ (∃ t : ZL, (∀ u, IsTree x y z u → False) ∧ e = .returned (.tuple #[tV t, .bool false]) ∧ Below w0.heap.size w0 w') := by
 have HT := Bx.mk hT; have HM := Bx.mk hM; have HE := Bx.mk hE; clear hT hM hE;obtain ⟨g0, o0, r0⟩ := hR.opn; have R0 := Bx.mk r0; clear r0 hR;have HS := Bx.mk (St.start w0);refine Zk Tryz.func250 rfl Tryz.ntmps250 [(0, .slice a0 3 c0)] ⟨rfl, trivial⟩ rfl ?_;refine xsr ?_;intro a HF;refine yal z7 HF HS ?_;clear HF HS a;intro a w1 b1 HF HS;revert a;refine xr 1 rfl<|xne<|xsr<|xr 1 rfl<|xy rfl (vxr 9 0 1 rfl (R0.out.ao 0 (by omega)))<|xy rfl (fun a HF=>ylo (v := .string x) rfl (HF.ev rfl) (R0.out.elem1 HS.out (show ([x, y, z] : List _)[0]? = some _ from rfl) rfl)) ?_;intro a HF;refine yc (ZdM x _ (HT.out.below HS.out.bel) (HM.out.below HS.out.bel) (HE.out.below HS.out.bel) (by omega)) HF Tryz.func263 ?_;rintro _ w2 (⟨p2, hpo2, hpt2, rfl, hb⟩ | ⟨hpn2, rfl, hb⟩);refine ⟨_, rfl, ?_⟩; replace HS := Bx.mk (HS.out.later hb);clear hb HF a;refine xr 3 rfl ?_;intro a HF;refine yal z5 HF HS ?_;clear HF HS a;intro a w3 b3 HF HS;refine yst HF HS 0 ?_;clear HS;intro w4 HS
 try dsimp only [List.set] at HS
 revert a;refine xr 1 rfl<|xne<|xsr<|xr 1 rfl<|xy rfl (vxr 9 1 1 rfl (R0.out.ao 1 (by omega)))<|xy rfl (fun a HF=>ylo (v := .string y) rfl (HF.ev rfl) (R0.out.elem1 HS.out (show ([x, y, z] : List _)[1]? = some _ from rfl) rfl)) ?_;intro a HF;refine yc (ZE y _ (HT.out.below HS.out.bel) (HE.out.below HS.out.bel)) HF Tryz.func208 ?_;rintro _ w5 (⟨n4, hg4, rfl, hb⟩ | ⟨hg4, rfl, hb⟩);refine ⟨_, rfl, ?_⟩; replace HS := Bx.mk (HS.out.later hb);clear hb HF a;refine xr 5 rfl<|xne<|xsr<|xr 1 rfl<|xy rfl (vxr 9 2 1 rfl (R0.out.ao 2 (by omega)))<|xy rfl (fun a HF=>ylo (v := .string z) rfl (HF.ev rfl) (R0.out.elem1 HS.out (show ([x, y, z] : List _)[2]? = some _ from rfl) rfl)) ?_;intro a HF;refine yc (ZE z _ (HT.out.below HS.out.bel) (HE.out.below HS.out.bel)) HF Tryz.func208 ?_;rintro _ w6 (⟨n5, hg5, rfl, hb⟩ | ⟨hg5, rfl, hb⟩);refine ⟨_, rfl, ?_⟩; replace HS := Bx.mk (HS.out.later hb);clear hb HF a;refine xr 5 rfl<|xne<|xsr<|xy rfl (vw HS.out 0 5 rfl rfl)<|xr 2 rfl<|xy rfl (vb [.int .i64 p2.fAt, .int .i64 p2.fBirth, .int .i64 p2.fSize, .int .i64 p2.fSum, .int .i64 p2.fLevel, .int .i64 (n4 : Int), .int .i64 (n5 : Int)] rfl)<|xr 7 rfl ?_;intro a HF;refine yst HF HS 1 ?_;clear HS;intro w7 HS
 try dsimp only [List.set] at HS
 revert a;refine xr 1 rfl<|xne<|xre ?_;intro a HF;refine ZS HF Tryz.results250 (HF.resBox rfl (HS.out.box 1 rfl) (by kernel_rfl)) (HF.res rfl) ?_;exact .inl ⟨⟨p2, (n4 : Int), (n5 : Int)⟩, ⟨hpo2, hpt2, Vm hg4, Vm hg5⟩, rfl, HS.out.bel⟩;refine ⟨_, rfl, ?_⟩; replace HS := Bx.mk (HS.out.later hb);clear hb HF a;refine xr 5 rfl<|xne<|xsr<|xy rfl (vw HS.out 0 5 rfl rfl)<|xr 2 rfl<|xy rfl (vb [.int .i64 p2.fAt, .int .i64 p2.fBirth, .int .i64 p2.fSize, .int .i64 p2.fSum, .int .i64 p2.fLevel, .int .i64 (n4 : Int), .int .i64 0] rfl)<|xr 7 rfl ?_;intro a HF;refine yst HF HS 1 ?_;clear HS;intro w8 HS
 try dsimp only [List.set] at HS
 revert a;refine xr 1 rfl<|xne<|xre ?_;intro a HF;refine ZS HF Tryz.results250 (HF.resBox rfl (HS.out.box 1 rfl) (by kernel_rfl)) (HF.res rfl) ?_;exact .inr ⟨⟨⟨p2.fAt, p2.fBirth, p2.fSize, p2.fSum, p2.fLevel⟩, (n4 : Int), 0⟩, fun u hu => Zas hu.m hg5, rfl, HS.out.bel⟩;refine ⟨_, rfl, ?_⟩; replace HS := Bx.mk (HS.out.later hb);clear hb HF a;refine xr 5 rfl<|xne<|xsr<|xr 1 rfl<|xy rfl (vxr 9 2 1 rfl (R0.out.ao 2 (by omega)))<|xy rfl (fun a HF=>ylo (v := .string z) rfl (HF.ev rfl) (R0.out.elem1 HS.out (show ([x, y, z] : List _)[2]? = some _ from rfl) rfl)) ?_;intro a HF;refine yc (ZE z _ (HT.out.below HS.out.bel) (HE.out.below HS.out.bel)) HF Tryz.func208 ?_;rintro _ w9 (⟨n6, hg6, rfl, hb⟩ | ⟨hg6, rfl, hb⟩);refine ⟨_, rfl, ?_⟩; replace HS := Bx.mk (HS.out.later hb);clear hb HF a;refine xr 5 rfl<|xne<|xsr<|xy rfl (vw HS.out 0 5 rfl rfl)<|xr 2 rfl<|xy rfl (vb [.int .i64 p2.fAt, .int .i64 p2.fBirth, .int .i64 p2.fSize, .int .i64 p2.fSum, .int .i64 p2.fLevel, .int .i64 0, .int .i64 (n6 : Int)] rfl)<|xr 7 rfl ?_;intro a HF;refine yst HF HS 1 ?_;clear HS;intro w10 HS
 try dsimp only [List.set] at HS
 revert a;refine xr 1 rfl<|xne<|xre ?_;intro a HF;refine ZS HF Tryz.results250 (HF.resBox rfl (HS.out.box 1 rfl) (by kernel_rfl)) (HF.res rfl) ?_;exact .inr ⟨⟨⟨p2.fAt, p2.fBirth, p2.fSize, p2.fSum, p2.fLevel⟩, 0, (n6 : Int)⟩, fun u hu => Zas hu.d hg4, rfl, HS.out.bel⟩;refine ⟨_, rfl, ?_⟩; replace HS := Bx.mk (HS.out.later hb);clear hb HF a;refine xr 5 rfl<|xne<|xsr<|xy rfl (vw HS.out 0 5 rfl rfl)<|xr 2 rfl<|xy rfl (vb [.int .i64 p2.fAt, .int .i64 p2.fBirth, .int .i64 p2.fSize, .int .i64 p2.fSum, .int .i64 p2.fLevel, .int .i64 0, .int .i64 0] rfl)<|xr 7 rfl ?_;intro a HF;refine yst HF HS 1 ?_;clear HS;intro w11 HS
 try dsimp only [List.set] at HS
 revert a;refine xr 1 rfl<|xne<|xre ?_;intro a HF;refine ZS HF Tryz.results250 (HF.resBox rfl (HS.out.box 1 rfl) (by kernel_rfl)) (HF.res rfl) ?_;exact .inr ⟨⟨⟨p2.fAt, p2.fBirth, p2.fSize, p2.fSum, p2.fLevel⟩, 0, 0⟩, fun u hu => Zas hu.d hg4, rfl, HS.out.bel⟩;refine ⟨_, rfl, ?_⟩; replace HS := Bx.mk (HS.out.later hb);clear hb HF a;refine xr 3 rfl ?_;intro a HF;refine yal z5 HF HS ?_;clear HF HS a;intro a w12 b7 HF HS;refine yst HF HS 0 ?_;clear HS;intro w13 HS
 try dsimp only [List.set] at HS
 revert a;refine xr 1 rfl<|xne<|xsr<|xr 1 rfl<|xy rfl (vxr 9 1 1 rfl (R0.out.ao 1 (by omega)))<|xy rfl (fun a HF=>ylo (v := .string y) rfl (HF.ev rfl) (R0.out.elem1 HS.out (show ([x, y, z] : List _)[1]? = some _ from rfl) rfl)) ?_;intro a HF;refine yc (ZE y _ (HT.out.below HS.out.bel) (HE.out.below HS.out.bel)) HF Tryz.func208 ?_;rintro _ w14 (⟨n8, hg8, rfl, hb⟩ | ⟨hg8, rfl, hb⟩);refine ⟨_, rfl, ?_⟩; replace HS := Bx.mk (HS.out.later hb);clear hb HF a;refine xr 5 rfl<|xne<|xsr<|xr 1 rfl<|xy rfl (vxr 9 2 1 rfl (R0.out.ao 2 (by omega)))<|xy rfl (fun a HF=>ylo (v := .string z) rfl (HF.ev rfl) (R0.out.elem1 HS.out (show ([x, y, z] : List _)[2]? = some _ from rfl) rfl)) ?_;intro a HF;refine yc (ZE z _ (HT.out.below HS.out.bel) (HE.out.below HS.out.bel)) HF Tryz.func208 ?_;rintro _ w15 (⟨n9, hg9, rfl, hb⟩ | ⟨hg9, rfl, hb⟩);refine ⟨_, rfl, ?_⟩; replace HS := Bx.mk (HS.out.later hb);clear hb HF a;refine xr 5 rfl<|xne<|xsr<|xy rfl (vw HS.out 0 5 rfl rfl)<|xr 2 rfl<|xy rfl (vb [.int .i64 0, .int .i64 0, .int .i64 0, .int .i64 0, .int .i64 0, .int .i64 (n8 : Int), .int .i64 (n9 : Int)] rfl)<|xr 7 rfl ?_;intro a HF;refine yst HF HS 1 ?_;clear HS;intro w16 HS
 try dsimp only [List.set] at HS
 revert a;refine xr 1 rfl<|xne<|xre ?_;intro a HF;refine ZS HF Tryz.results250 (HF.resBox rfl (HS.out.box 1 rfl) (by kernel_rfl)) (HF.res rfl) ?_;exact .inr ⟨⟨⟨0, 0, 0, 0, 0⟩, (n8 : Int), (n9 : Int)⟩, fun u hu => hpn2 u.fRoot hu.ok hu.p, rfl, HS.out.bel⟩;refine ⟨_, rfl, ?_⟩; replace HS := Bx.mk (HS.out.later hb);clear hb HF a;refine xr 5 rfl<|xne<|xsr<|xy rfl (vw HS.out 0 5 rfl rfl)<|xr 2 rfl<|xy rfl (vb [.int .i64 0, .int .i64 0, .int .i64 0, .int .i64 0, .int .i64 0, .int .i64 (n8 : Int), .int .i64 0] rfl)<|xr 7 rfl ?_;intro a HF;refine yst HF HS 1 ?_;clear HS;intro w17 HS
 try dsimp only [List.set] at HS
 revert a;refine xr 1 rfl<|xne<|xre ?_;intro a HF;refine ZS HF Tryz.results250 (HF.resBox rfl (HS.out.box 1 rfl) (by kernel_rfl)) (HF.res rfl) ?_;exact .inr ⟨⟨⟨0, 0, 0, 0, 0⟩, (n8 : Int), 0⟩, fun u hu => hpn2 u.fRoot hu.ok hu.p, rfl, HS.out.bel⟩;refine ⟨_, rfl, ?_⟩; replace HS := Bx.mk (HS.out.later hb);clear hb HF a;refine xr 5 rfl<|xne<|xsr<|xr 1 rfl<|xy rfl (vxr 9 2 1 rfl (R0.out.ao 2 (by omega)))<|xy rfl (fun a HF=>ylo (v := .string z) rfl (HF.ev rfl) (R0.out.elem1 HS.out (show ([x, y, z] : List _)[2]? = some _ from rfl) rfl)) ?_;intro a HF;refine yc (ZE z _ (HT.out.below HS.out.bel) (HE.out.below HS.out.bel)) HF Tryz.func208 ?_;rintro _ w18 (⟨n10, hg10, rfl, hb⟩ | ⟨hg10, rfl, hb⟩);refine ⟨_, rfl, ?_⟩; replace HS := Bx.mk (HS.out.later hb);clear hb HF a;refine xr 5 rfl<|xne<|xsr<|xy rfl (vw HS.out 0 5 rfl rfl)<|xr 2 rfl<|xy rfl (vb [.int .i64 0, .int .i64 0, .int .i64 0, .int .i64 0, .int .i64 0, .int .i64 0, .int .i64 (n10 : Int)] rfl)<|xr 7 rfl ?_;intro a HF;refine yst HF HS 1 ?_;clear HS;intro w19 HS
 try dsimp only [List.set] at HS
 revert a;refine xr 1 rfl<|xne<|xre ?_;intro a HF;refine ZS HF Tryz.results250 (HF.resBox rfl (HS.out.box 1 rfl) (by kernel_rfl)) (HF.res rfl) ?_;exact .inr ⟨⟨⟨0, 0, 0, 0, 0⟩, 0, (n10 : Int)⟩, fun u hu => hpn2 u.fRoot hu.ok hu.p, rfl, HS.out.bel⟩;refine ⟨_, rfl, ?_⟩; replace HS := Bx.mk (HS.out.later hb);clear hb HF a;refine xr 5 rfl<|xne<|xsr<|xy rfl (vw HS.out 0 5 rfl rfl)<|xr 2 rfl<|xy rfl (vb z7 rfl)<|xr 7 rfl ?_;intro a HF;refine yst HF HS 1 ?_;clear HS;intro w20 HS
 try dsimp only [List.set] at HS
 revert a;refine xr 1 rfl<|xne<|xre ?_;intro a HF;refine ZS HF Tryz.results250 (HF.resBox rfl (HS.out.box 1 rfl) (by kernel_rfl)) (HF.res rfl) ?_;exact .inr ⟨⟨⟨0, 0, 0, 0, 0⟩, 0, 0⟩, fun u hu => hpn2 u.fRoot hu.ok hu.p, rfl, HS.out.bel⟩
open Go.RowKit
structure Zd where
  fKind : Int
  fLinks : Int
  fSize : Int
  fTree : ZL
abbrev nL (n : Zd) : List Value := [.int .i64 n.fKind, .int .i64 n.fLinks, .int .i64 n.fSize, .int .i64 n.fTree.fRoot.fAt, .int .i64 n.fTree.fRoot.fBirth, .int .i64 n.fTree.fRoot.fSize, .int .i64 n.fTree.fRoot.fSum, .int .i64 n.fTree.fRoot.fLevel, .int .i64 n.fTree.fDepth, .int .i64 n.fTree.fMany]
abbrev nV (n : Zd) : Value := .agg #[.int .i64 n.fKind, .int .i64 n.fLinks, .int .i64 n.fSize, .int .i64 n.fTree.fRoot.fAt, .int .i64 n.fTree.fRoot.fBirth, .int .i64 n.fTree.fRoot.fSize, .int .i64 n.fTree.fRoot.fSum, .int .i64 n.fTree.fRoot.fLevel, .int .i64 n.fTree.fDepth, .int .i64 n.fTree.fMany]
def Yj (kind : Int) : Int := if kind = 1 then 12 else if kind = 2 then 128 else 0
theorem Zij : Yj 1 = 12 := rfl
theorem Zau {k : Int} (h1 : k ≠ 1) (h2 : k ≠ 2) : Yj k = 0 := by unfold Yj; rw [if_neg h1, if_neg h2]
def Yk (kind size : Int) : Int := if Yj kind = 0 ∨ ¬ (0 ≤ size ∧ size ≤ 16 * Yj kind) then -1 else (size + Yj kind - 1) / Yj kind
theorem Zav {k s : Int} (h : Yj k = 0) : Yk k s = -1 := if_pos (.inl h)
theorem JZ {k s : Int} (h : ¬ (0 ≤ s ∧ s ≤ 16 * Yj k)) : Yk k s = -1 := if_pos (.inr h)
theorem UK {k s : Int} (h : Yj k ≠ 0) (h1 : 0 ≤ s) (h2 : s ≤ 16 * Yj k) : Yk k s = (s + Yj k - 1) / Yj k := if_neg fun e => e.elim h fun e => e ⟨h1, h2⟩
structure Zaw (n : Zd) : Prop where
  many : 0 ≤ Yk n.fKind n.fSize
  links : 1 ≤ n.fLinks ∧ n.fLinks ≤ if n.fKind = 2 then 1 else 9
  tmany : n.fTree.fMany = Yk n.fKind n.fSize
  depth : n.fTree.fDepth = ((depthN (Yk n.fKind n.fSize) : Nat) : Int)
  root : n.fTree.fRoot.ok = true
  level : n.fTree.fRoot.hole = true ∨ n.fTree.fRoot.fLevel = n.fTree.fDepth
instance (n : Zd) : Decidable (Zaw n) := decidable_of_iff (0 ≤ Yk n.fKind n.fSize ∧ (1 ≤ n.fLinks ∧ n.fLinks ≤ if n.fKind = 2 then 1 else 9) ∧ n.fTree.fMany = Yk n.fKind n.fSize ∧ n.fTree.fDepth = ((depthN (Yk n.fKind n.fSize) : Nat) : Int) ∧ n.fTree.fRoot.ok = true ∧ (n.fTree.fRoot.hole = true ∨ n.fTree.fRoot.fLevel = n.fTree.fDepth)) ⟨fun ⟨a, b, c, d, e, f⟩ => ⟨a, b, c, d, e, f⟩, fun ⟨a, b, c, d, e, f⟩ => ⟨a, b, c, d, e, f⟩⟩
def Zd.ok (n : Zd) : Bool := decide (Zaw n)
theorem Zd.ok_yes {n : Zd} (h : Zaw n) : n.ok = true := decide_eq_true h
theorem Zd.ok_no {n : Zd} (h : ¬ Zaw n) : n.ok = false := decide_eq_false h
theorem Zd.ok_is {n : Zd} (h : n.ok = true) : Zaw n := of_decide_eq_true h
structure Znk (n : Zd) : Prop where
  kind : n.fKind = 1 ∨ n.fKind = 2
  links : 1 ≤ n.fLinks ∧ n.fLinks ≤ 9
  size : 0 ≤ n.fSize ∧ n.fSize ≤ 16 * Yj n.fKind
  is : Yk n.fKind n.fSize = (n.fSize + Yj n.fKind - 1) / Yj n.fKind
  many : 0 ≤ n.fTree.fMany ∧ n.fTree.fMany ≤ 16
  depth : 0 ≤ n.fTree.fDepth ∧ n.fTree.fDepth ≤ 2
theorem Zaw.small {n : Zd} (h : Zaw n) : Znk n := by
  have hk : n.fKind = 1 ∨ n.fKind = 2 := by
    by_cases h1 : n.fKind = 1
    · exact .inl h1
    · by_cases h2 : n.fKind = 2
      · exact .inr h2
      · have := h.many
        rw [Zav (Zau h1 h2)] at this
        omega
  have he : 12 ≤ Yj n.fKind ∧ Yj n.fKind ≤ 128 := by rcases hk with e | e <;> rw [e] <;> decide
  have hs : 0 ≤ n.fSize ∧ n.fSize ≤ 16 * Yj n.fKind := by
    by_cases hs : 0 ≤ n.fSize ∧ n.fSize ≤ 16 * Yj n.fKind
    · exact hs
    · have := h.many
      rw [JZ hs] at this
      omega
  have hp := UK (k := n.fKind) (by omega) hs.1 hs.2;have hl := h.links;have hm : Yk n.fKind n.fSize ≤ 16 := by
    rw [hp];have : (n.fSize + Yj n.fKind - 1) / Yj n.fKind < 17 := Int.ediv_lt_of_lt_mul (by omega) (by omega)
    omega
  have hd := QX (Yk n.fKind n.fSize);have h1 := h.many;have h2 := h.tmany;have h3 := h.depth;refine ⟨hk, ⟨hl.1, ?_⟩, hs, hp, by omega, by omega⟩;have := hl.2
  split at this <;> omega
def Znz : ByteArray := ⟨#[101, 110, 100]⟩
def Xv (n : Zd) : List ByteArray := [Zw n.fKind, Zw n.fLinks, Zw n.fSize, ZY n.fTree.fRoot, Zw n.fTree.fDepth, Zw n.fTree.fMany, Znz]
def XT (n : Zd) : ByteArray := bif n.ok then (Yh (Xv n)).1 else ByteArray.empty
theorem Zbc {n : Zd} (h : n.ok = false) : XT n = ByteArray.empty := by unfold XT; rw [h]; rfl
theorem ZbU {n : Zd} (h : n.ok = true) : XT n = (Yh (Xv n)).1 := by unfold XT; rw [h]; rfl
theorem Zg3 (n : Zd) : (Z8 (Xv n)).size ≤ 1000 := by
  refine Nat.le_trans (Zat (Nat.le_trans (YH _) (by decide)) (Zat (Nat.le_trans (YH _) (by decide)) (Zat (Nat.le_trans (YH _) (by decide)) (Zat (Nat.le_trans (Zc4 _) (by decide)) (Zat (Nat.le_trans (YH _) (by decide)) (Zat (Nat.le_trans (YH _) (by decide)) (Zat (y := Znz) (by decide) (Nat.le_refl (Z8 []).size)))))))) ?_;have h0 : (Z8 []).size = 0 := rfl
  omega
theorem YY {n : Zd} (h : n.ok = true) : IsRec (XT n) (Xv n) := by
  rw [ZbU h, YR (by simp only [Xv, List.length_cons, List.length_nil]; omega) (Nat.le_trans (Zg3 n) (by decide))];exact ⟨rfl, by simp only [Xv, List.length_cons, List.length_nil]; omega⟩
theorem YZ (n : Zd) : (XT n).size ≤ 1000 := by
  cases h : n.ok with
  | false => rw [Zbc h]; exact Nat.zero_le _
  | true => rw [← (YY h).is]; exact Zg3 n
theorem ZjW {m n : Zd} (hm : m.ok = true) (hn : n.ok = true) (h : XT m = XT n) : m = n := by
  have h1 := YY hm;have h2 := YY hn;rw [h] at h1;have e := h1.one h2;simp only [Xv, List.cons.injEq, and_true] at e;obtain ⟨e1, e2, e3, e4, e5, e6⟩ := e;have a := (Zd.ok_is hm);have b := (Zd.ok_is hn);have sa := a.small;have sb := b.small;have ea : Yj m.fKind ≤ 128 := by rcases sa.kind with e | e <;> rw [e] <;> decide
  have eb : Yj n.fKind ≤ 128 := by rcases sb.kind with e | e <;> rw [e] <;> decide
  have k1 := sa.links; have k2 := sa.size; have k3 := sa.many; have k4 := sa.depth; have k5 := sa.kind;have l1 := sb.links; have l2 := sb.size; have l3 := sb.many; have l4 := sb.depth; have l5 := sb.kind;have j1 : m.fKind = n.fKind := Ja (y := Zw n.fKind) ⟨by omega, by omega, e1⟩ ⟨by omega, by omega, rfl⟩;have j2 : m.fLinks = n.fLinks := Ja (y := Zw n.fLinks) ⟨by omega, by omega, e2⟩ ⟨by omega, by omega, rfl⟩;have j3 : m.fSize = n.fSize := Ja (y := Zw n.fSize) ⟨by omega, by omega, e3⟩ ⟨by omega, by omega, rfl⟩;have j4 := Za8 a.root b.root e4;have j5 : m.fTree.fDepth = n.fTree.fDepth := Ja (y := Zw n.fTree.fDepth) ⟨by omega, by omega, e5⟩ ⟨by omega, by omega, rfl⟩;have j6 : m.fTree.fMany = n.fTree.fMany := Ja (y := Zw n.fTree.fMany) ⟨by omega, by omega, e6⟩ ⟨by omega, by omega, rfl⟩;obtain ⟨_, _, _, ⟨_, _, _⟩⟩ := m;obtain ⟨_, _, _, ⟨_, _, _⟩⟩ := n;simp only at j1 j2 j3 j4 j5 j6;rw [j1, j2, j3, j4, j5, j6]
open Classical in
noncomputable def Un (s : ByteArray) : Option Zd := if h : ∃ n : Zd, n.ok = true ∧ XT n = s then some h.choose else none
theorem Uo {s : ByteArray} {n : Zd} (hn : n.ok = true) (h : XT n = s) : Un s = some n := by
  have he : ∃ n : Zd, n.ok = true ∧ XT n = s := ⟨n, hn, h⟩;unfold Un;rw [dif_pos he];have hc := he.choose_spec;rw [ZjW hc.1 hn (hc.2.trans h.symm)]
theorem Zg4 {s : ByteArray} (h : ∀ n : Zd, n.ok = true → XT n = s → False) : Un s = none := by
  unfold Un;rw [dif_neg fun ⟨n, hn, hs⟩ => h n hn hs]
theorem Zg5 {s : ByteArray} {n : Zd} (h : Un s = some n) : n.ok = true ∧ XT n = s := by
  unfold Un at h
  split at h
  · next he => rw [← Option.some.inj h]; exact he.choose_spec
  · cases h
theorem Xg {n : Zd} (h : n.ok = true) : Znk n ∧ Qi (Zw n.fKind) = some n.fKind.toNat ∧ Qi (Zw n.fLinks) = some n.fLinks.toNat ∧ Qi (Zw n.fSize) = some n.fSize.toNat ∧ Qi (Zw n.fTree.fDepth) = some n.fTree.fDepth.toNat ∧ Qi (Zw n.fTree.fMany) = some n.fTree.fMany.toNat := by
  have sa := (Zd.ok_is h).small;have ea : Yj n.fKind ≤ 128 := by rcases sa.kind with e | e <;> rw [e] <;> decide
  have k1 := sa.links; have k2 := sa.size; have k3 := sa.many; have k4 := sa.depth; have k5 := sa.kind;exact ⟨sa, Yb (by omega), Yb (by omega), Yb (by omega), Yb (by omega), Yb (by omega)⟩
open Go.RowKit
def Zgk (n : Nat) : ByteArray := ⟨(List.replicate n (0 : UInt8)).toArray⟩
theorem Zcv (n : Nat) : (Zgk n).size = n := by rw [Zj]; simp [Zgk]
def longN (size : Int) (k : Nat) : Nat := (min 12 (size - (k : Int) * 12)).toNat
theorem ZdU (size : Int) (k : Nat) : longN size k ≤ 12 := by unfold longN; omega
def QB (s : ByteArray) : Bool := s.data.toList.getLast? == some 0
def ZeN (s : ByteArray) (n : Nat) : ByteArray := s ++ Zgk (n - s.size)
def QZ (s : ByteArray) (n : Nat) : Bool := decide (s.size ≤ n) && !QB s
theorem ZdV {s : ByteArray} {n : Nat} (h : s.size ≤ n) (hz : QB s = false) : QZ s n = true := by unfold QZ; rw [decide_eq_true h, hz]; rfl
theorem Zcw {s : ByteArray} {n : Nat} (h : ¬ s.size ≤ n) : QZ s n = false := by unfold QZ; rw [decide_eq_false h]; rfl
theorem Zcx {s : ByteArray} {n : Nat} (hz : QB s = true) : QZ s n = false := by unfold QZ; rw [hz]; simp
theorem Zfp {s : ByteArray} {n : Nat} (h : s.size ≤ n) : (ZeN s n).size = n := by
  unfold ZeN;rw [ZC, Zcv]; omega
noncomputable def XU (st : Zb) (size : Int) : Nat → List PtrD → Option ByteArray
  | _, [] => some ByteArray.empty
  | k, p :: r => bif QZ (Zr st p) (longN size k) then (XU st size (k + 1) r).map (ZeN (Zr st p) (longN size k) ++ ·) else none
theorem Zlq {st : Zb} {size : Int} {k : Nat} {p : PtrD} {r : List PtrD} (h : QZ (Zr st p) (longN size k) = false) : XU st size k (p :: r) = none := by
  show (bif _ then _ else _) = _;rw [h]; rfl
theorem ZjX {st : Zb} {size : Int} {k : Nat} {p : PtrD} {r : List PtrD} (h : QZ (Zr st p) (longN size k) = true) : XU st size k (p :: r) = (XU st size (k + 1) r).map (ZeN (Zr st p) (longN size k) ++ ·) := by
  show (bif _ then _ else _) = _;rw [h]; rfl
theorem Zg6 {o : Option ByteArray} (a b : ByteArray) : (o.map (b ++ ·)).map (a ++ ·) = o.map ((a ++ b) ++ ·) := by
  cases o
  · rfl
  · simp only [Option.map_some, Option.some.injEq]
    exact (Zfm _ _ _).symm
noncomputable def fileF (st : Zb) (n : Zd) : Option ByteArray := bif n.ok && (n.fKind == 1) then (leavesF st n.fTree).bind (XU st n.fSize 0) else none
theorem Zbd {st : Zb} {n : Zd} (h : (n.ok && (n.fKind == 1)) = false) : fileF st n = none := by unfold fileF; rw [h]; rfl
theorem ZdW {st : Zb} {n : Zd} (h : leavesF st n.fTree = none) : fileF st n = none := by
  unfold fileF;rw [h]
  cases (n.ok && (n.fKind == 1)) <;> rfl
theorem Jz {st : Zb} {n : Zd} {l : List PtrD} (h : (n.ok && (n.fKind == 1)) = true) (hl : leavesF st n.fTree = some l) : fileF st n = XU st n.fSize 0 l := by unfold fileF; rw [h, hl]; rfl
theorem Zfq {st : Zb} {size : Int} {xs : List PtrD} {i : Nat} {b : ByteArray} (h : XU st size 0 xs = (XU st size i (xs.drop i)).map (b ++ ·)) (hi : i < xs.length) (hp : QZ (Zr st (xs.getD i PtrD.zero)) (longN size i) = true) : XU st size 0 xs = (XU st size (i + 1) (xs.drop (i + 1))).map ((b ++ ZeN (Zr st (xs.getD i PtrD.zero)) (longN size i)) ++ ·) := by
  have e : xs.drop i = xs.getD i PtrD.zero :: xs.drop (i + 1) := by rw [List.drop_eq_getElem_cons hi, List.getD_eq_getElem?_getD, List.getElem?_eq_getElem hi, Option.getD_some]
  rw [h, e, ZjX hp, Zg6]
theorem VQ {st : Zb} {size : Int} {xs : List PtrD} {i : Nat} {b : ByteArray} (h : XU st size 0 xs = (XU st size i (xs.drop i)).map (b ++ ·)) (hi : i < xs.length) (hp : QZ (Zr st (xs.getD i PtrD.zero)) (longN size i) = false) : XU st size 0 xs = none := by
  have e : xs.drop i = xs.getD i PtrD.zero :: xs.drop (i + 1) := by rw [List.drop_eq_getElem_cons hi, List.getD_eq_getElem?_getD, List.getElem?_eq_getElem hi, Option.getD_some]
  rw [h, e, Zlq hp]; rfl
theorem Zg7 {st : Zb} {size : Int} {xs : List PtrD} {i : Nat} {b : ByteArray} (h : XU st size 0 xs = (XU st size i (xs.drop i)).map (b ++ ·)) (hi : ¬ i < xs.length) : XU st size 0 xs = some b := by
  rw [h, List.drop_eq_nil_of_le (by omega)];show some (b ++ ByteArray.empty) = _;rw [ByteArray.append_empty]
theorem ZdX {st : Zb} {size : Int} {xs : List PtrD} : XU st size 0 xs = (XU st size 0 (xs.drop 0)).map ((⟨#[]⟩ : ByteArray) ++ ·) := by
  rw [List.drop_zero]
  cases XU st size 0 xs with
  | none => rfl
  | some b => show some b = some (ByteArray.empty ++ b); rw [ByteArray.empty_append]
theorem Zg8 (s : ByteArray) : Go.Lib.hasSuffix s.data.toList [0] = QB s := by
  unfold Go.Lib.hasSuffix QB;generalize s.data.toList = l;rcases List.eq_nil_or_concat l with rfl | ⟨r, b, rfl⟩
  · rfl
  · rw [List.concat_eq_append, List.getLast?_concat]
    unfold List.isSuffixOf;rw [List.reverse_append, List.reverse_singleton, List.reverse_singleton, List.singleton_append];simp only [List.isPrefixOf, Bool.and_true]
    by_cases h : b = 0
    · subst h; rfl
    · rw [beq_eq_false_iff_ne.2 (Ne.symm h)]
      exact (beq_eq_false_iff_ne.2 fun e => h (Option.some.inj e)).symm
theorem Zfr {s : ByteArray} (h : ¬ 0 < s.size) : QB s = false := by
  unfold QB;rw [List.eq_nil_of_length_eq_zero (l := s.data.toList) (by rw [← Zj]; omega)]; rfl
theorem Zfs {s : ByteArray} (h : 0 < s.size) : QB s = ((((s.get! (s.size - 1)).toNat : Nat) : Int) == 0) := by
  unfold QB;rw [List.getLast?_eq_getElem?, ← Zj, Jd (by omega)]
  by_cases e : s.get! (s.size - 1) = 0
  · rw [e]; rfl
  · rw [beq_eq_false_iff_ne.2 fun x => e (Option.some.inj x)]
    refine (beq_eq_false_iff_ne.2 fun x => e ?_).symm;have : (s.get! (s.size - 1)).toNat = 0 := by omega
    exact UInt8.toNat_inj.1 this
def ZeO (s : ByteArray) : ByteArray := ⟨(s.data.toList.reverse.dropWhile (· == 0)).reverse.toArray⟩
theorem ZbV {s : ByteArray} (h : QB s = false) : ZeO s = s := by
  apply Yn
  show (s.data.toList.reverse.dropWhile (· == 0)).reverse = s.data.toList;unfold QB at h;rcases List.eq_nil_or_concat s.data.toList with e | ⟨r, b, e⟩
  · rw [e]; rfl
  · rw [e, List.concat_eq_append, List.getLast?_concat] at h
    have hb : b ≠ 0 := fun x => by rw [x] at h; exact absurd h (by decide)
    rw [e, List.concat_eq_append, List.reverse_append, List.reverse_singleton, List.singleton_append, List.dropWhile_cons, if_neg (by simpa using hb), List.reverse_cons, List.reverse_reverse]
theorem Zft {s : ByteArray} (h : QB s = true) : ZeO (s.extract 0 (s.size - 1)) = ZeO s := by
  unfold ZeO
  congr 3
  rw [Z1, List.drop_zero, Nat.sub_zero, Zj, ← List.dropLast_eq_take];unfold QB at h;rcases List.eq_nil_or_concat s.data.toList with e | ⟨r, b, e⟩
  · rw [e] at h; cases h
  · rw [e, List.concat_eq_append, List.getLast?_concat] at h
    obtain rfl : b = 0 := by simpa using h
    rw [e, List.concat_eq_append, List.dropLast_concat, List.reverse_append, List.reverse_singleton, List.singleton_append, List.dropWhile_cons]; rfl
theorem ZjY (s : ByteArray) : (ZeO s).size ≤ s.size := by
  rw [Zj, Zj];show ((s.data.toList.reverse.dropWhile (· == 0)).reverse).length ≤ _;rw [List.length_reverse];have : ∀ l : List UInt8, (l.dropWhile (· == 0)).length ≤ l.length := fun l => by
    induction l with
    | nil => exact Nat.le_refl _
    | cons a r ih => rw [List.dropWhile_cons]; split <;> simp only [List.length_cons] <;> omega
  exact Nat.le_trans (this _) (by rw [List.length_reverse]; exact Nat.le_refl _)
theorem Zi9 (s : ByteArray) : ((ZeO s).toList == s.toList) = !QB s := by
  cases h : QB s with
  | false => rw [ZbV h]; exact beq_self_eq_true _
  | true =>
    refine beq_eq_false_iff_ne.2 fun e => ?_;have e2 : ZeO s = s := ZR (beq_iff_eq.2 e);have h1 := ZjY (s.extract 0 (s.size - 1));rw [Zft h, e2, ByteArray.size_extract] at h1;have : 0 < s.size := by
      by_cases hp : 0 < s.size
      · exact hp
      · rw [Zfr hp] at h; cases h
    omega
open Go.RowKit
noncomputable def X5 (st : Zb) : List PtrD → Option (List (Option Zd))
  | [] => some []
  | p :: r => bif p.hole then (X5 st r).map (none :: ·) else match Un (Zr st p) with
    | none => none
    | some n => bif QA st n.fTree then (X5 st r).map (some n :: ·) else none
noncomputable def tabF (st : Zb) (t : ZL) : Option (List (Option Zd)) := (leavesF st t).bind (X5 st)
theorem ZbW {st : Zb} {t : ZL} (h : leavesF st t = none) : tabF st t = none := by unfold tabF; rw [h]; rfl
theorem Q0 {st : Zb} {t : ZL} {l : List PtrD} (h : leavesF st t = some l) : tabF st t = X5 st l := by unfold tabF; rw [h]; rfl
theorem VR {st : Zb} {p : PtrD} {r : List PtrD} (h : p.hole = true) : X5 st (p :: r) = (X5 st r).map (none :: ·) := by
  show (bif p.hole then _ else _) = _;rw [h]; rfl
theorem Zbe {st : Zb} {p : PtrD} {r : List PtrD} (h : p.hole = false) (hn : Un (Zr st p) = none) : X5 st (p :: r) = none := by
  show (bif p.hole then _ else _) = _;rw [h, hn]; rfl
theorem VS {st : Zb} {p : PtrD} {r : List PtrD} {n : Zd} (h : p.hole = false) (hn : Un (Zr st p) = some n) (ht : QA st n.fTree = false) : X5 st (p :: r) = none := by
  show (bif p.hole then _ else _) = _;rw [h, hn];simp only [cond_false, ht]
theorem Zbf {st : Zb} {p : PtrD} {r : List PtrD} {n : Zd} (h : p.hole = false) (hn : Un (Zr st p) = some n) (ht : QA st n.fTree = true) : X5 st (p :: r) = (X5 st r).map (some n :: ·) := by
  show (bif p.hole then _ else _) = _;rw [h, hn];simp only [cond_false, ht, cond_true]
theorem Zlr {α : Type} {o : Option (List α)} (a b : List α) : (o.map (b ++ ·)).map (a ++ ·) = o.map ((a ++ b) ++ ·) := by cases o <;> simp
theorem Zg9 {α : Type} {o : Option (List α)} : o = o.map (([] : List α) ++ ·) := by cases o <;> simp
theorem UL {xs : List PtrD} {i : Nat} (h : i < xs.length) : xs.drop i = xs.getD i PtrD.zero :: xs.drop (i + 1) := by
  rw [List.drop_eq_getElem_cons h, List.getD_eq_getElem?_getD, List.getElem?_eq_getElem h]; rfl
theorem Zbg {st : Zb} {xs : List PtrD} {i : Nat} {b : List (Option Zd)} (h : X5 st xs = (X5 st (xs.drop i)).map (b ++ ·)) (hi : i < xs.length) (hp : X5 st (xs.getD i PtrD.zero :: xs.drop (i + 1)) = none) : X5 st xs = none := by
  rw [h, UL hi, hp]; rfl
theorem Zbh {st : Zb} {xs : List PtrD} {i : Nat} {b : List (Option Zd)} (h : X5 st xs = (X5 st (xs.drop i)).map (b ++ ·)) (hi : i < xs.length) {o : Option Zd} (hp : X5 st (xs.getD i PtrD.zero :: xs.drop (i + 1)) = (X5 st (xs.drop (i + 1))).map (o :: ·)) : X5 st xs = (X5 st (xs.drop (i + 1))).map ((b ++ [o]) ++ ·) := by
  rw [h, UL hi, hp, ← Zlr]; rfl
theorem Zja {st : Zb} {xs : List PtrD} {i : Nat} {b : List (Option Zd)} (h : X5 st xs = (X5 st (xs.drop i)).map (b ++ ·)) (hi : ¬ i < xs.length) : X5 st xs = some b := by
  rw [h, List.drop_of_length_le (by omega)];show some (b ++ []) = _;rw [List.append_nil]
theorem Zha {st : Zb} : ∀ {l : List PtrD} {ns : List (Option Zd)}, X5 st l = some ns → ns.length = l.length
  | [], ns, h => by obtain rfl := Option.some.inj h; rfl
  | p :: r, ns, h => by
    have key : ∀ o : Option Zd, (X5 st r).map (o :: ·) = some ns → ns.length = (p :: r).length := fun o h => by
      cases hr : X5 st r with
      | none => rw [hr] at h; cases h
      | some m =>
        rw [hr] at h;obtain rfl := Option.some.inj h;rw [List.length_cons, List.length_cons, Zha hr]
    cases hh : p.hole with
    | true => exact key _ ((VR hh).symm.trans h)
    | false =>
      cases hn : Un (Zr st p) with
      | none => rw [Zbe hh hn] at h; cases h
      | some n =>
        cases ht : QA st n.fTree with
        | false => rw [VS hh hn ht] at h; cases h
        | true => exact key _ ((Zbf hh hn ht).symm.trans h)
theorem Qt {st : Zb} {t : ZL} {l : List PtrD} (h : leavesF st t = some l) : l.length ≤ 16 := by
  obtain ⟨x, ht, hd, _, rfl, hx, hn⟩ := QY h;unfold topB at ht;rw [Bool.and_eq_true] at ht;have := ZB ht.1
  omega
def Zhb (st : Zb) (p : PtrD) (o : Option Zd) : Prop := (p.hole = true ∧ o = none) ∨ (p.hole = false ∧ ∃ n, o = some n ∧ Un (Zr st p) = some n ∧ QA st n.fTree = true)
theorem Zgl {st : Zb} : ∀ {l : List PtrD} {ns : List (Option Zd)}, X5 st l = some ns → ∀ k, k < l.length → Zhb st (l.getD k PtrD.zero) (ns.getD k none)
  | [], ns, h, k, hk => absurd hk (Nat.not_lt_zero _)
  | p :: r, ns, h, k, hk => by
    have key : ∀ o : Option Zd, Zhb st p o → (X5 st r).map (o :: ·) = some ns → Zhb st ((p :: r).getD k PtrD.zero) (ns.getD k none) := fun o ho h => by
      cases hr : X5 st r with
      | none => rw [hr] at h; cases h
      | some m =>
        rw [hr] at h;obtain rfl := Option.some.inj h
        cases k with
        | zero => exact ho
        | succ k => exact Zgl hr k (by simpa using hk)
    cases hh : p.hole with
    | true => exact key _ (.inl ⟨hh, rfl⟩) ((VR hh).symm.trans h)
    | false =>
      cases hn : Un (Zr st p) with
      | none => rw [Zbe hh hn] at h; cases h
      | some n =>
        cases ht : QA st n.fTree with
        | false => rw [VS hh hn ht] at h; cases h
        | true => exact key _ (.inr ⟨hh, n, rfl, hn, ht⟩) ((Zbf hh hn ht).symm.trans h)
theorem Zjb {st : Zb} {t : ZL} {ns : List (Option Zd)} (h : tabF st t = some ns) : ∃ l, leavesF st t = some l ∧ X5 st l = some ns ∧ ns.length = l.length := by
  cases hl : leavesF st t with
  | none => rw [ZbW hl] at h; cases h
  | some l => rw [Q0 hl] at h; exact ⟨l, rfl, h, Zha h⟩
theorem Zik {st : Zb} {t : ZL} {l : List PtrD} (h : leavesF st t = some l) : QA st t = true := by unfold QA; rw [h]; rfl
theorem ZjZ {st : Zb} {t : ZL} (h : leavesF st t = none) : QA st t = false := by unfold QA; rw [h]; rfl
noncomputable def ZdY (st : Zb) (t : ZL) : Option (List (Option Zd)) := bif st.ok then tabF st t else none
theorem Zgm {st : Zb} {t : ZL} (h : st.ok = false) : ZdY st t = none := by unfold ZdY; rw [h]; rfl
theorem Zc7 {st : Zb} {t : ZL} (h : st.ok = true) : ZdY st t = tabF st t := by unfold ZdY; rw [h]; rfl
theorem Zjc {st : Zb} {t : ZL} {ns : List (Option Zd)} (h : ZdY st t = some ns) : st.ok = true ∧ tabF st t = some ns := by
  cases hs : st.ok with
  | false => rw [Zgm hs] at h; cases h
  | true => rw [Zc7 hs] at h; exact ⟨rfl, h⟩
open Go.RowKit Go.Lib
structure Za where
  fName : ByteArray
  fId : Int
def Za.zero : Za := ⟨ByteArray.empty, 0⟩
def Za.cells (e : Za) : List Value := [.string e.fName, .int .i64 e.fId]
theorem Za.cells_len (e : Za) : e.cells.length = 2 := rfl
def ZdZ (e : Za) : Bool := Xt e.fName && inB e.fId 1 15
def XF (l : List Za) (i : Nat) : Bool := ZdZ (l.getD i Za.zero) && (i == 0 || Op.bytesLess (l.getD (i - 1) Za.zero).fName.toList (l.getD i Za.zero).fName.toList)
def YE (l : List Za) : Bool := decide (∀ i, i < l.length → XF l i = true) && decide (l.length ≤ 12)
theorem Qu {l : List Za} (h : YE l = true) : (∀ i, i < l.length → XF l i = true) ∧ l.length ≤ 12 := by
  unfold YE at h;rw [Bool.and_eq_true] at h;exact ⟨of_decide_eq_true h.1, of_decide_eq_true h.2⟩
theorem ZbX {l : List Za} (h : ∀ i, i < l.length → XF l i = true) (hl : l.length ≤ 12) : YE l = true := by
  unfold YE; rw [decide_eq_true h, decide_eq_true hl]; rfl
theorem JA {l : List Za} {i : Nat} (hi : i < l.length) (h : XF l i = false) : YE l = false := by
  unfold YE; rw [decide_eq_false fun k => by rw [k i hi] at h; cases h]; rfl
theorem Zd0 {l : List Za} {i : Nat} (h : Xt (l.getD i Za.zero).fName = false) : XF l i = false := by unfold XF ZdZ; rw [h]; rfl
theorem Zhc {l : List Za} {i : Nat} (h : inB (l.getD i Za.zero).fId 1 15 = false) : XF l i = false := by unfold XF ZdZ; rw [h, Bool.and_false]; rfl
theorem Zd1 {l : List Za} {i : Nat} (h0 : i ≠ 0) (h : Op.bytesLess (l.getD (i - 1) Za.zero).fName.toList (l.getD i Za.zero).fName.toList = false) : XF l i = false := by
  unfold XF;rw [h, beq_eq_false_iff_ne.2 h0]; simp
theorem VT {l : List Za} {i : Nat} (h1 : Xt (l.getD i Za.zero).fName = true) (h2 : inB (l.getD i Za.zero).fId 1 15 = true) (h3 : i = 0 ∨ Op.bytesLess (l.getD (i - 1) Za.zero).fName.toList (l.getD i Za.zero).fName.toList = true) : XF l i = true := by
  unfold XF ZdZ;rw [h1, h2];rcases h3 with h3 | h3
  · rw [h3]; rfl
  · rw [h3]; simp
theorem Zhd {l : List Za} {i : Nat} (h : XF l i = true) : Xt (l.getD i Za.zero).fName = true ∧ 1 ≤ (l.getD i Za.zero).fId ∧ (l.getD i Za.zero).fId ≤ 15 ∧ (i = 0 ∨ Op.bytesLess (l.getD (i - 1) Za.zero).fName.toList (l.getD i Za.zero).fName.toList = true) := by
  unfold XF ZdZ at h;simp only [Bool.and_eq_true, Bool.or_eq_true, beq_iff_eq] at h;have := ZB h.1.2;exact ⟨h.1.1, this.1, this.2, h.2⟩
theorem Y8 {l : List Za} (h : YE l = true) {e : Za} (he : e ∈ l) : Xt e.fName = true ∧ 1 ≤ e.fId ∧ e.fId ≤ 15 := by
  obtain ⟨i, hi, rfl⟩ := List.getElem_of_mem he;have := Zhd ((Qu h).1 i hi);rw [show l.getD i Za.zero = l[i] by rw [List.getD_eq_getElem?_getD, List.getElem?_eq_getElem hi]; rfl] at this;exact ⟨this.1, this.2.1, this.2.2.1⟩
def U3 (e : Za) : List UInt8 := e.fName.data.toList ++ 61 :: (Zw e.fId).data.toList
def QC (l : List Za) : List UInt8 := l.flatMap fun e => U3 e ++ [59]
def Zbi (l : List Za) : ByteArray := ⟨(QC l).toArray⟩
theorem UM (l : List Za) : (Zbi l).data.toList = QC l := rfl
theorem XV (e : Za) (l : List Za) : QC (e :: l) = U3 e ++ 59 :: QC l := by unfold QC; rw [List.flatMap_cons, List.append_assoc]; rfl
theorem Zfu (a b : List Za) : QC (a ++ b) = QC a ++ QC b := by unfold QC; rw [List.flatMap_append]
structure IsEnts (s : ByteArray) (l : List Za) : Prop where
  ok : YE l = true
  is : Zbi l = s
theorem Up {s : ByteArray} (h : Xt s = true) (c : UInt8) (hc : XN c = false) : ∀ x ∈ s.data.toList, x ≠ c := by
  unfold Xt at h;rw [Bool.and_eq_true] at h;intro x hx e;have := List.all_eq_true.1 h.2 x hx;rw [e, hc] at this; cases this
theorem Zfv {s : ByteArray} (h : Xt s = true) : 1 ≤ s.size ∧ s.size ≤ 4 := by
  unfold Xt at h;rw [Bool.and_eq_true] at h;have := ZB h.1
  omega
theorem ZnA (n : Int) (c : UInt8) (hc : digitVal c = none) : c ∉ (Zw n).data.toList := fun h => Zgf c hc n c h rfl
theorem Jh {e : Za} (h : Xt e.fName = true) : (59 : UInt8) ∉ U3 e := by
  unfold U3;intro hm;rcases List.mem_append.1 hm with hm | hm
  · exact Up h 59 (by decide) 59 hm rfl
  · rcases List.mem_cons.1 hm with hm | hm
    · cases hm
    · exact ZnA _ 59 (by decide) hm
theorem Jb {c : UInt8} : ∀ {a b x y : List UInt8}, c ∉ a → c ∉ x → a ++ c :: b = x ++ c :: y → a = x ∧ b = y
  | [], b, [], y, _, _, h => by simpa using h
  | [], b, z :: x, y, _, hx, h => by
    simp only [List.nil_append, List.cons_append, List.cons.injEq] at h;exact absurd (h.1 ▸ List.mem_cons_self ..) hx
  | z :: a, b, [], y, ha, _, h => by
    simp only [List.nil_append, List.cons_append, List.cons.injEq] at h;exact absurd (h.1 ▸ List.mem_cons_self ..) ha
  | z :: a, b, u :: x, y, ha, hx, h => by
    simp only [List.cons_append, List.cons.injEq] at h;obtain ⟨e1, e2⟩ := Jb (fun hm => ha (List.mem_cons_of_mem _ hm)) (fun hm => hx (List.mem_cons_of_mem _ hm)) h.2;exact ⟨by rw [h.1, e1], e2⟩
theorem Zhe {m n : Int} (hm : 0 ≤ m ∧ m ≤ 999999999) (hn : 0 ≤ n ∧ n ≤ 999999999) (h : Zw m = Zw n) : m = n := by
  have h1 := Yb hm;rw [h, Yb hn] at h1;have := Option.some.inj h1
  omega
theorem Xr {a b : ByteArray} (h : a.data.toList = b.data.toList) : a = b := by
  cases a; cases b
  simp only [ByteArray.mk.injEq];exact Array.toList_inj.1 h
theorem Zls {e f : Za} (h1 : Xt e.fName = true) (h2 : Xt f.fName = true) (i1 : 0 ≤ e.fId ∧ e.fId ≤ 999999999) (i2 : 0 ≤ f.fId ∧ f.fId ≤ 999999999) (h : U3 e = U3 f) : e = f := by
  obtain ⟨a, b⟩ := Jb (fun hm => Up h1 61 (by decide) 61 hm rfl) (fun hm => Up h2 61 (by decide) 61 hm rfl) h
  cases e; cases f
  simp only at *;rw [Xr a, Zhe i1 i2 (Xr b)]
theorem Zfw : ∀ {l m : List Za}, (∀ e ∈ l, Xt e.fName = true ∧ 1 ≤ e.fId ∧ e.fId ≤ 15) → (∀ e ∈ m, Xt e.fName = true ∧ 1 ≤ e.fId ∧ e.fId ≤ 15) → QC l = QC m → l = m
  | [], [], _, _, _ => rfl
  | [], e :: m, _, _, h => by rw [XV] at h; simp [QC] at h
  | e :: l, [], _, _, h => by rw [XV] at h; simp [QC] at h
  | e :: l, f :: m, hl, hm, h => by
    have a := hl e (List.mem_cons_self ..);have b := hm f (List.mem_cons_self ..);rw [XV, XV] at h;obtain ⟨e1, e2⟩ := Jb (Jh a.1) (Jh b.1) h;rw [Zls a.1 b.1 (by omega) (by omega) e1, Zfw (fun x hx => hl x (List.mem_cons_of_mem _ hx)) (fun x hx => hm x (List.mem_cons_of_mem _ hx)) e2]
theorem IsEnts.one {s : ByteArray} {l m : List Za} (h : IsEnts s l) (k : IsEnts s m) : l = m :=
  Zfw (fun _ he => Y8 h.ok he) (fun _ he => Y8 k.ok he) (congrArg (fun s : ByteArray => s.data.toList) (h.is.trans k.is.symm))
open Classical in
noncomputable def entsG (s : ByteArray) : Option (List Za) := if h : ∃ l, IsEnts s l then some h.choose else none
theorem ZbY {s : ByteArray} {l : List Za} (h : IsEnts s l) : entsG s = some l := by
  have he : ∃ l, IsEnts s l := ⟨l, h⟩;unfold entsG;rw [dif_pos he, he.choose_spec.one h]
theorem Xh {s : ByteArray} (h : ∀ l, IsEnts s l → False) : entsG s = none := by
  unfold entsG;rw [dif_neg fun ⟨l, hl⟩ => h l hl]
theorem Zlt {s : ByteArray} {l : List Za} (h : entsG s = some l) : IsEnts s l := by
  by_cases he : ∃ m, IsEnts s m
  · obtain ⟨m, hm⟩ := he
    rw [ZbY hm] at h;obtain rfl := Option.some.inj h;exact hm
  · rw [Xh fun m hm => he ⟨m, hm⟩] at h; cases h
noncomputable def blobL (st : Zb) : List PtrD → Option ByteArray
  | [] => some ByteArray.empty
  | p :: r => bif (Zr st p).size == 0 || (!r.isEmpty && (Zr st p).size != 128) then none else (blobL st r).map (Zr st p ++ ·)
theorem Zhf {st : Zb} {p : PtrD} {r : List PtrD} (h : (Zr st p).size = 0 ∨ r ≠ [] ∧ (Zr st p).size ≠ 128) : blobL st (p :: r) = none := by
  show (bif _ then _ else _) = _;have : ((Zr st p).size == 0 || (!r.isEmpty && (Zr st p).size != 128)) = true := by
    rcases h with h | ⟨h, h2⟩
    · rw [h]; rfl
    · cases r with
      | nil => exact absurd rfl h
      | cons a b => simp [h2]
  rw [this]; rfl
theorem Zfx {st : Zb} {p : PtrD} {r : List PtrD} (h : (Zr st p).size ≠ 0) (h2 : r = [] ∨ (Zr st p).size = 128) : blobL st (p :: r) = (blobL st r).map (Zr st p ++ ·) := by
  show (bif _ then _ else _) = _;have : ((Zr st p).size == 0 || (!r.isEmpty && (Zr st p).size != 128)) = false := by
    rw [beq_eq_false_iff_ne.2 h, Bool.false_or];rcases h2 with h2 | h2
    · rw [h2]; rfl
    · rw [h2]; simp
  rw [this]; rfl
theorem VU {st : Zb} {xs : List PtrD} {i : Nat} {b : ByteArray} (h : blobL st xs = (blobL st (xs.drop i)).map (b ++ ·)) (hi : i < xs.length) (h1 : (Zr st (xs.getD i PtrD.zero)).size ≠ 0) (h2 : i + 1 = xs.length ∨ (Zr st (xs.getD i PtrD.zero)).size = 128) : blobL st xs = (blobL st (xs.drop (i + 1))).map ((b ++ Zr st (xs.getD i PtrD.zero)) ++ ·) := by
  rw [h, UL hi, Zfx h1 (by
    rcases h2 with h2 | h2
    · exact .inl (List.drop_of_length_le (by omega))
    · exact .inr h2), Zg6]
theorem Uq {st : Zb} {xs : List PtrD} {i : Nat} {b : ByteArray} (h : blobL st xs = (blobL st (xs.drop i)).map (b ++ ·)) (hi : i < xs.length) (h1 : (Zr st (xs.getD i PtrD.zero)).size = 0 ∨ i + 1 < xs.length ∧ (Zr st (xs.getD i PtrD.zero)).size ≠ 128) : blobL st xs = none := by
  rw [h, UL hi, Zhf (by
    rcases h1 with h1 | ⟨h1, h2⟩
    · exact .inl h1
    · exact .inr ⟨fun e => by have := congrArg List.length e; rw [List.length_drop, List.length_nil] at this; omega, h2⟩)]; rfl
theorem Zhg {st : Zb} {xs : List PtrD} {i : Nat} {b : ByteArray} (h : blobL st xs = (blobL st (xs.drop i)).map (b ++ ·)) (hi : ¬ i < xs.length) : blobL st xs = some b := by
  rw [h, List.drop_of_length_le (by omega)];show some (b ++ ByteArray.empty) = some b;rw [show b ++ ByteArray.empty = b from Xr (by rw [ZO]; exact List.append_nil _)]
theorem Zd2 {st : Zb} {xs : List PtrD} : blobL st xs = (blobL st (xs.drop 0)).map ((⟨#[]⟩ : ByteArray) ++ ·) := by
  rw [List.drop_zero]
  cases blobL st xs with
  | none => rfl
  | some b => exact congrArg some (Xr (by rw [ZO]; rfl)).symm
theorem Zax {st : Zb} (hr : ∀ p, (Zr st p).size ≤ 128) : ∀ {l : List PtrD} {t : ByteArray}, blobL st l = some t → t.size ≤ 128 * l.length
  | [], t, h => by obtain rfl := Option.some.inj h; exact Nat.zero_le _
  | p :: r, t, h => by
    by_cases hc : (Zr st p).size = 0 ∨ r ≠ [] ∧ (Zr st p).size ≠ 128
    · rw [Zhf hc] at h; cases h
    · have h1 : (Zr st p).size ≠ 0 := fun e => hc (.inl e)
      have h2 : r = [] ∨ (Zr st p).size = 128 := by
        by_cases hn : r = []
        · exact .inl hn
        · by_cases h3 : (Zr st p).size = 128
          · exact .inr h3
          · exact absurd (.inr ⟨hn, h3⟩) hc
      rw [Zfx h1 h2] at h
      cases hb : blobL st r with
      | none => rw [hb] at h; cases h
      | some u =>
        rw [hb] at h;obtain rfl := Option.some.inj h;have := Zax hr hb;have := hr p;rw [ZC, List.length_cons]; omega
noncomputable def Qd (st : Zb) (n : Zd) : Option (List Za) := (leavesF st n.fTree).bind fun l => (blobL st l).bind fun s => bif (s.size : Int) == n.fSize then entsG s else none
theorem ZbZ {st : Zb} {n : Zd} (h : leavesF st n.fTree = none) : Qd st n = none := by unfold Qd; rw [h]; rfl
theorem Zb0 {st : Zb} {n : Zd} {l : List PtrD} (h : leavesF st n.fTree = some l) (hb : blobL st l = none) : Qd st n = none := by unfold Qd; rw [h]; simp only [Option.bind_some]; rw [hb]; rfl
theorem Zb1 {st : Zb} {n : Zd} {l : List PtrD} {s : ByteArray} (h : leavesF st n.fTree = some l) (hb : blobL st l = some s) (hs : (s.size : Int) ≠ n.fSize) : Qd st n = none := by
  unfold Qd; rw [h]; simp only [Option.bind_some]; rw [hb];show (bif _ then _ else _) = _;rw [beq_eq_false_iff_ne.2 hs]; rfl
theorem Zbj {st : Zb} {n : Zd} {l : List PtrD} {s : ByteArray} (h : leavesF st n.fTree = some l) (hb : blobL st l = some s) (hs : (s.size : Int) = n.fSize) : Qd st n = entsG s := by
  unfold Qd; rw [h]; simp only [Option.bind_some]; rw [hb];show (bif _ then _ else _) = _;rw [beq_iff_eq.2 hs]; rfl
theorem ZmA {st : Zb} {n : Zd} {es : List Za} (h : Qd st n = some es) : YE es = true := by
  cases hl : leavesF st n.fTree with
  | none => rw [ZbZ hl] at h; cases h
  | some l =>
    cases hb : blobL st l with
    | none => rw [Zb0 hl hb] at h; cases h
    | some s =>
      by_cases hs : (s.size : Int) = n.fSize
      · rw [Zbj hl hb hs] at h; exact (Zlt h).ok
      · rw [Zb1 hl hb hs] at h; cases h
end Go.Proofs.YtigjfacaofgjjaaGreatDoor
namespace Go.Proofs.YtigjfacaofgjjaaGreatDoor.LinkP
set_option linter.unusedVariables false
set_option linter.unusedSimpArgs false
set_option maxHeartbeats 1000000
set_option maxRecDepth 100000
section
variable (kd : Nat → List Nat) (isF valid : Nat → Bool)
def Zgn (Q : List Nat) (h : Nat) : Prop := (∀ x ∈ kd h, valid x = true) ∧ (Q ++ (kd h).filter isF).Nodup
open Classical in
noncomputable def bfsRun : Nat → List Nat → Nat → Option (List Nat)
  | 0, _, _ => none
  | n + 1, Q, p => if p < Q.length then (if Zgn kd isF valid Q (Q.getD p 0) then bfsRun n (Q ++ (kd (Q.getD p 0)).filter isF) (p + 1) else none) else some Q
variable {kd isF valid}
theorem bfs_bad {n : Nat} {Q : List Nat} {p : Nat} (h : p < Q.length) (hb : ¬ Zgn kd isF valid Q (Q.getD p 0)) : bfsRun kd isF valid (n + 1) Q p = none := by
  unfold bfsRun; rw [if_pos h, if_neg hb]
structure QI (kd : Nat → List Nat) (isF valid : Nat → Bool) (Q : List Nat) (p : Nat) : Prop where
  is : Q = 0 :: ((Q.take p).flatMap kd).filter isF
  nd : Q.Nodup
  ok : ∀ x ∈ (Q.take p).flatMap kd, valid x = true
  le : p ≤ Q.length
  par : ∀ i, i < Q.length → i = 0 ∨ ∃ j, j < i ∧ j < p ∧ Q.getD i 0 ∈ kd (Q.getD j 0)
theorem QI.start : QI kd isF valid [0] 0 := ⟨rfl, by simp, fun x hx => (by cases hx), Nat.zero_le _, fun i hi => Or.inl (by simpa using hi)⟩
theorem J9 {A B : List Nat} {i : Nat} (h : i < A.length) : (A ++ B).getD i 0 = A.getD i 0 := by
  rw [List.getD_eq_getElem?_getD, List.getD_eq_getElem?_getD, List.getElem?_append_left h]
theorem Zil {l : List Nat} {k : Nat} (h : k < l.length) : l.take (k + 1) = l.take k ++ [l.getD k 0] := by
  rw [List.take_succ_eq_append_getElem h, List.getD_eq_getElem?_getD, List.getElem?_eq_getElem h]; rfl
theorem QI.step {Q : List Nat} {p : Nat} (h : QI kd isF valid Q p) (hp : p < Q.length) (hb : Zgn kd isF valid Q (Q.getD p 0)) : QI kd isF valid (Q ++ (kd (Q.getD p 0)).filter isF) (p + 1) := by
  have e1 : (Q ++ (kd (Q.getD p 0)).filter isF).take (p + 1) = Q.take p ++ [Q.getD p 0] := by
    rw [List.take_append_of_le_length (by omega), Zil hp]
  have e2 : ((Q ++ (kd (Q.getD p 0)).filter isF).take (p + 1)).flatMap kd = (Q.take p).flatMap kd ++ kd (Q.getD p 0) := by
    rw [e1, List.flatMap_append]; simp
  refine ⟨?_, hb.2, fun x hx => ?_, by rw [List.length_append]; omega, fun i hi => ?_⟩
  · rw [e2, List.filter_append, ← List.cons_append, ← h.is]
  · rw [e2] at hx
    rcases List.mem_append.1 hx with hx | hx
    · exact h.ok x hx
    · exact hb.1 x hx
  · by_cases hi2 : i < Q.length
    · rcases h.par i hi2 with h0 | ⟨j, h1, h2, h3⟩
      · exact .inl h0
      · refine .inr ⟨j, h1, by omega, ?_⟩
        rw [J9 hi2, J9 (by omega)]; exact h3
    · refine .inr ⟨p, by omega, by omega, ?_⟩
      rw [J9 hp];have hm : (Q ++ (kd (Q.getD p 0)).filter isF).getD i 0 ∈ (kd (Q.getD p 0)).filter isF := by
        generalize (kd (Q.getD p 0)).filter isF = R at hi ⊢;rw [List.length_append] at hi;rw [List.getD_eq_getElem?_getD, List.getElem?_append_right (by omega), List.getElem?_eq_getElem (by omega)];exact List.getElem_mem _
      exact (List.mem_filter.1 hm).1
end
section
variable {α : Type} {id : α → Nat} {ch : α → List α} {kd : Nat → List Nat} {isF valid : Nat → Bool} {lk : Nat → Nat}
theorem Ji {l : List Nat} {i : Nat} (h : i < l.length) : l.getD i 0 ∈ l := by
  rw [List.getD_eq_getElem?_getD, List.getElem?_eq_getElem h]; exact List.getElem_mem _
end
end Go.Proofs.YtigjfacaofgjjaaGreatDoor.LinkP
namespace Go.Proofs.YtigjfacaofgjjaaGreatDoor
set_option linter.unusedVariables false
set_option linter.unusedSimpArgs false
set_option maxHeartbeats 1000000
set_option maxRecDepth 100000
open Go.RowKit
structure Zh where
  fPath : ByteArray
  fId : Int
def Zh.cells (x : Zh) : List Value := [.string x.fPath, .int .i64 x.fId]
theorem Zh.cells_len (x : Zh) : x.cells.length = 2 := rfl
theorem Zh.at_ {w : World} {b o : Nat} {x : Zh} (h : w.rangeAt b o x.cells) :
    w.cell? ⟨b, o, none⟩ = some (.string x.fPath) ∧ w.cell? ⟨b, o + 1, none⟩ = some (.int .i64 x.fId) :=
  ⟨h 0 _ rfl, h 1 _ rfl⟩
def Zh.bulk (x : Zh) : Nat := x.fPath.size
structure Vn where
  fId : Int
  fFolder : Bool
  fText : ByteArray
def Vn.cells (x : Vn) : List Value := [.int .i64 x.fId, .bool x.fFolder, .string x.fText]
theorem Vn.cells_len (x : Vn) : x.cells.length = 3 := rfl
theorem Vn.at_ {w : World} {b o : Nat} {x : Vn} (h : w.rangeAt b o x.cells) :
    w.cell? ⟨b, o, none⟩ = some (.int .i64 x.fId) ∧ w.cell? ⟨b, o + 1, none⟩ = some (.bool x.fFolder) ∧ w.cell? ⟨b, o + 2, none⟩ = some (.string x.fText) :=
  ⟨h 0 _ rfl, h 1 _ rfl, h 2 _ rfl⟩
def Vn.bulk (x : Vn) : Nat := x.fText.size
open Go.RowKit
noncomputable def Jj (st : Zb) (n : Zd) : Bool := bif n.fKind == 1 then (fileF st n).isSome else (Qd st n).isSome
noncomputable def Ze (st : Zb) (ns : List (Option Zd)) (k : Nat) : List Za := match ns.getD k none with
  | none => []
  | some n => bif n.fKind == 1 then [] else (Qd st n).getD []
noncomputable def kdN (st : Zb) (ns : List (Option Zd)) (k : Nat) : List Nat := (Ze st ns k).map fun e => e.fId.toNat
def isFN (ns : List (Option Zd)) (k : Nat) : Bool := match ns.getD k none with
  | none => false
  | some n => !(n.fKind == 1)
def ZX (ns : List (Option Zd)) (k : Nat) : Bool := (ns.getD k none).isSome
def lkN (ns : List (Option Zd)) (k : Nat) : Nat := match ns.getD k none with
  | none => 0
  | some n => n.fLinks.toNat
noncomputable def ZmB (st : Zb) (ns : List (Option Zd)) : Option (List Nat) := LinkP.bfsRun (kdN st ns) (isFN ns) (ZX ns) 17 [0] 0
open Classical in
noncomputable def Zlu (st : Zb) (ns : List (Option Zd)) : Bool := match ZmB st ns with
  | none => false
  | some Q => decide (∀ k, k < ns.length → ZX ns k = true → k ≠ 0 → (Q.flatMap (kdN st ns)).count k = lkN ns k)
open Classical in
noncomputable def Zow (st : Zb) (ns : List (Option Zd)) : Bool := decide (∀ k n, ns.getD k none = some n → Jj st n = true)
theorem Zim {st : Zb} {ns : List (Option Zd)} (h : ZmB st ns = none) : Zlu st ns = false := by unfold Zlu; rw [h]
theorem UN {st : Zb} {n : Zd} (h : (n.fKind == 1) = true) : Jj st n = (fileF st n).isSome := by unfold Jj; rw [h]; rfl
theorem Q1 {st : Zb} {n : Zd} (h : (n.fKind == 1) = false) : Jj st n = (Qd st n).isSome := by unfold Jj; rw [h]; rfl
theorem Zfy {st : Zb} {ns : List (Option Zd)} {k : Nat} (h : ns.getD k none = none) : Ze st ns k = [] := by unfold Ze; rw [h]
theorem Ur {st : Zb} {ns : List (Option Zd)} {k : Nat} {n : Zd} (h : ns.getD k none = some n) (hf : (n.fKind == 1) = true) : Ze st ns k = [] := by unfold Ze; rw [h]; show (bif _ then _ else _) = _; rw [hf]; rfl
theorem Zd3 {st : Zb} {ns : List (Option Zd)} {k : Nat} {n : Zd} {es : List Za} (h : ns.getD k none = some n) (hf : (n.fKind == 1) = false) (hd : Qd st n = some es) : Ze st ns k = es := by unfold Ze; rw [h]; show (bif _ then _ else _) = _; rw [hf, hd]; rfl
theorem Zb2 {ns : List (Option Zd)} {k : Nat} (h : ns.getD k none = none) : isFN ns k = false := by unfold isFN; rw [h]
theorem VV {ns : List (Option Zd)} {k : Nat} {n : Zd} (h : ns.getD k none = some n) : isFN ns k = !(n.fKind == 1) := by unfold isFN; rw [h]
theorem VW {ns : List (Option Zd)} {k : Nat} (h : isFN ns k = true) : ∃ n, ns.getD k none = some n ∧ (n.fKind == 1) = false := by
  cases hn : ns.getD k none with
  | none => rw [Zb2 hn] at h; cases h
  | some n => rw [VV hn] at h; exact ⟨n, rfl, by simpa using h⟩
theorem YS {ns : List (Option Zd)} {k : Nat} {n : Zd} (h : ns.getD k none = some n) : ZX ns k = true := by unfold ZX; rw [h]; rfl
theorem Zcy {ns : List (Option Zd)} {k : Nat} (h : ns.getD k none = none) : ZX ns k = false := by unfold ZX; rw [h]; rfl
theorem Zb3 {ns : List (Option Zd)} {k : Nat} (h : ZX ns k = true) : ∃ n, ns.getD k none = some n := Option.isSome_iff_exists.1 h
theorem X6 {ns : List (Option Zd)} {k : Nat} (h : ZX ns k = true) : k < ns.length := by
  by_cases hk : k < ns.length
  · exact hk
  · unfold ZX at h
    rw [List.getD_eq_getElem?_getD, List.getElem?_eq_none (by omega)] at h; cases h
theorem VX {st : Zb} {ns : List (Option Zd)} (k : Nat) : YE (Ze st ns k) = true := by
  cases hn : ns.getD k none with
  | none => rw [Zfy hn]; exact ZbX (fun i hi => absurd hi (Nat.not_lt_zero _)) (Nat.zero_le _)
  | some n =>
    cases hf : (n.fKind == 1) with
    | true => rw [Ur hn hf]; exact ZbX (fun i hi => absurd hi (Nat.not_lt_zero _)) (Nat.zero_le _)
    | false =>
      cases hd : Qd st n with
      | some es => rw [Zd3 hn hf hd]; exact ZmA hd
      | none =>
        unfold Ze; rw [hn]; show YE (bif _ then _ else _) = _; rw [hf, hd];exact ZbX (fun i hi => absurd hi (Nat.not_lt_zero _)) (Nat.zero_le _)
structure Y1 (ns : List (Option Zd)) : Prop where
  len : ns.length ≤ 16
  ok : ∀ k n, ns.getD k none = some n → n.ok = true
theorem UO {st : Zb} {t : ZL} {ns : List (Option Zd)} (h : tabF st t = some ns) : Y1 ns := by
  obtain ⟨l, hl, ht, hlen⟩ := Zjb h;refine ⟨by have := Qt hl; omega, fun k n hk => ?_⟩;have hkl : k < l.length := by
    have := X6 (YS hk)
    omega
  have := Zgl ht k hkl;rcases this with ⟨_, h2⟩ | ⟨_, m, h2, h3, _⟩
  · rw [hk] at h2; cases h2
  · rw [hk] at h2
    obtain rfl := Option.some.inj h2;exact (Zg5 h3).1
def ZP (p s : ByteArray) : ByteArray := bif p.toList == slB.toList then slB ++ s else (p ++ slB) ++ s
noncomputable def chF (st : Zb) (ns : List (Option Zd)) (a : Zh) : List Zh := (Ze st ns a.fId.toNat).map fun e => ⟨ZP a.fPath e.fName, e.fId⟩
def Xa : Zh := ⟨slB, 0⟩
def Zoh (g : Zh → List Zh → List Zh × Bool) : List Zh → List Zh → List Zh × Bool
  | [], out => (out, true)
  | c :: r, out => bif (g c out).2 then Zoh g r (g c out).1 else ((g c out).1, false)
noncomputable def ZmC (st : Zb) (ns : List (Option Zd)) : Nat → Zh → List Zh → List Zh × Bool
  | 0, _, out => (out, false)
  | m + 1, a, out => bif decide (144 < (out ++ [a]).length) || !ZX ns a.fId.toNat || decide (a.fId < 0) then (out ++ [a], false)
    else match ns.getD a.fId.toNat none with
      | none => (out ++ [a], false)
      | some n => bif n.fKind == 1 then (out ++ [a], true) else match Qd st n with
        | none => (out ++ [a], false)
        | some _ => Zoh (ZmC st ns m) (chF st ns a) (out ++ [a])
open Classical in
noncomputable def Zou (st : Zb) (ns : List (Option Zd)) : Option (List Zh) :=
  bif !isFN ns 0 then none else bif !(ZmC st ns 145 Xa []).2 then none else
    if ∀ k n, ns.getD k none = some n → (((ZmC st ns 145 Xa []).1.map fun x => x.fId.toNat).count k : Int) = n.fLinks ∧ ((n.fKind == 1) = true → (fileF st n).isSome = true) then some (ZmC st ns 145 Xa []).1 else none
open Go.RowKit
def Zm (nms : List ByteArray) : ByteArray := slB ++ Qh nms slB
theorem Zd4 (a b : ByteArray) : (a ++ b).data.toList = a.data.toList ++ b.data.toList := by simp
theorem Zj0 (s : ByteArray) : Qh [] s = ⟨#[]⟩ := rfl
theorem UP (nms : List ByteArray) (s : ByteArray) : (Qh nms s).data.toList = Go.Lib.join (nms.map (·.data.toList)) s.data.toList := by unfold Qh; simp
theorem Zj1 (x s : ByteArray) : Qh [x] s = x := by
  apply Yn
  rw [UP];exact Go.Lib.join_one _ _
theorem Zin (x : ByteArray) (r : List ByteArray) (y s : ByteArray) : Qh ((x :: r) ++ [y]) s = (Qh (x :: r) s ++ s) ++ y := by
  apply Yn
  rw [Zd4, Zd4, UP, UP, List.map_append, List.map_cons, List.cons_append, Go.Lib.join_cons, Go.Lib.join_cons];unfold Go.Lib.joinTail;rw [List.map_append, List.flatten_append];simp [List.append_assoc]
theorem Zd5 : Zm [] = slB := by
  apply Yn
  unfold Zm;rw [Zd4, Zj0]; rfl
theorem Zhh (s : ByteArray) : Zm [s] = slB ++ s := by unfold Zm; rw [Zj1]
theorem Zhi (x : ByteArray) (r : List ByteArray) (s : ByteArray) : Zm ((x :: r) ++ [s]) = (Zm (x :: r) ++ slB) ++ s := by
  unfold Zm;rw [Zin]
  apply Yn
  simp only [Zd4, List.append_assoc]
theorem Zio {x : ByteArray} (r : List ByteArray) (hx : x.size ≠ 0) : ((Zm (x :: r)).toList == slB.toList) = false := by
  cases h : ((Zm (x :: r)).toList == slB.toList) with
  | false => rfl
  | true =>
    exfalso
    have e : Zm (x :: r) = slB := ZR h;have h1 := congrArg (fun b : ByteArray => b.data.toList.length) e;unfold Zm at h1;simp only [Zd4, UP, List.map_cons, Go.Lib.join_cons, List.length_append] at h1;have h2 : x.data.toList.length = x.size := by rw [← Zj]
    have h3 : slB.data.toList.length = 1 := rfl
    omega
theorem Zfz {nms : List ByteArray} (hn : ∀ x ∈ nms, x.size ≠ 0) (s : ByteArray) : ZP (Zm nms) s = Zm (nms ++ [s]) := by
  cases nms with
  | nil =>
    rw [List.nil_append, Zhh, Zd5];unfold ZP;rw [show (slB.toList == slB.toList) = true from by simp]; rfl
  | cons x r =>
    rw [Zhi];unfold ZP;rw [Zio r (hn x (List.mem_cons_self ..))]; rfl
theorem Zjd {st : Zb} {ns : List (Option Zd)} {k : Nat} {e : Za} (he : e ∈ Ze st ns k) : ((e.fId.toNat : Nat) : Int) = e.fId ∧ e.fName.size ≠ 0 ∧ e.fName.size ≤ 4 := by
  have h := Y8 (VX (st := st) (ns := ns) k) he;have h2 := Zfv h.1
  omega
theorem Zlv {nms : List ByteArray} {s : ByteArray} (hn : ∀ x ∈ nms, x.size ≠ 0 ∧ x.size ≤ 4) (hs : s.size ≠ 0 ∧ s.size ≤ 4) : ∀ x ∈ nms ++ [s], x.size ≠ 0 ∧ x.size ≤ 4 := fun x hx => by
  rcases List.mem_append.1 hx with hx | hx
  · exact hn x hx
  · rw [List.mem_singleton.1 hx]; exact hs
open Go.RowKit
structure Zc where
  fKind : Int
  fId : Int
  fName : ByteArray
structure WkS where
  met : Nat → Nat
  tr : List Zc
  pa : List Zh
noncomputable def XB (st : Zb) (ns : List (Option Zd)) (k : Nat) : List Zc := match ns.getD k none with
  | none => []
  | some n => bif Jj st n then [] else [⟨bif n.fKind == 1 then 2 else 1, (k : Int), ByteArray.empty⟩]
def X7 (met : Nat → Nat) (k : Nat) : Nat → Nat := fun i => if i = k then met k + 1 else met i
noncomputable def ZT (st : Zb) (ns : List (Option Zd)) (x : Zh) (s : WkS) : WkS := ⟨X7 s.met x.fId.toNat, s.tr ++ (bif s.met x.fId.toNat == 0 then XB st ns x.fId.toNat else []), s.pa ++ [x]⟩
def QD (ns : List (Option Zd)) (met : Nat → Nat) (k : Nat) : Bool := !(ZX ns k) || ((isFN ns k && decide (0 < met k)) || decide (9 ≤ met k))
noncomputable def Jv (st : Zb) (ns : List (Option Zd)) (g : Zh → WkS → WkS) (x : Zh) (s : WkS) (e : Za) : WkS :=
  bif QD ns s.met e.fId.toNat then ⟨s.met, s.tr ++ [⟨3, x.fId, e.fName⟩], s.pa⟩ else g ⟨ZP x.fPath e.fName, e.fId⟩ (ZT st ns ⟨ZP x.fPath e.fName, e.fId⟩ s)
noncomputable def wkG (st : Zb) (ns : List (Option Zd)) : Nat → Zh → WkS → WkS
  | 0, _, s => s
  | m + 1, x, s => (Ze st ns x.fId.toNat).foldl (Jv st ns (wkG st ns m) x) s
theorem Zbk {st : Zb} {ns : List (Option Zd)} {x : Zh} (h : Ze st ns x.fId.toNat = []) (m : Nat) (s : WkS) : wkG st ns m x s = s := by
  cases m with
  | zero => rfl
  | succ m => unfold wkG; rw [h]; rfl
theorem Jk {st : Zb} {ns : List (Option Zd)} {g : Zh → WkS → WkS} {x : Zh} {s : WkS} {e : Za} (h : QD ns s.met e.fId.toNat = true) : Jv st ns g x s e = ⟨s.met, s.tr ++ [⟨3, x.fId, e.fName⟩], s.pa⟩ := by unfold Jv; rw [h]; rfl
theorem Jw {st : Zb} {ns : List (Option Zd)} {g : Zh → WkS → WkS} {x : Zh} {s : WkS} {e : Za} (h : QD ns s.met e.fId.toNat = false) : Jv st ns g x s e = g ⟨ZP x.fPath e.fName, e.fId⟩ (ZT st ns ⟨ZP x.fPath e.fName, e.fId⟩ s) := by unfold Jv; rw [h]; rfl
theorem Jx {ns : List (Option Zd)} {met : Nat → Nat} {k : Nat} (h : QD ns met k = false) : ZX ns k = true ∧ (isFN ns k = true → met k = 0) ∧ met k < 9 := by
  unfold QD at h;simp only [Bool.or_eq_false_iff, Bool.not_eq_false', Bool.and_eq_false_iff, decide_eq_false_iff_not] at h;refine ⟨h.1, fun hf => ?_, by have := h.2.2; omega⟩;rcases h.2.1 with h1 | h1
  · rw [hf] at h1; cases h1
  · omega
theorem Xw (met : Nat → Nat) (k : Nat) : X7 met k k = met k + 1 := if_pos rfl
theorem Q2 {met : Nat → Nat} {k i : Nat} (h : i ≠ k) : X7 met k i = met i := if_neg h
theorem Us {st : Zb} {ns : List (Option Zd)} (x : Zh) (s : WkS) (i : Nat) : s.met i ≤ (ZT st ns x s).met i := by
  show s.met i ≤ X7 s.met x.fId.toNat i
  by_cases h : i = x.fId.toNat
  · rw [h, Xw]; omega
  · rw [Q2 h]; omega
theorem Zd6 {α β : Type} (P : β → Prop) {f : β → α → β} (hf : ∀ s e, P s → P (f s e)) : ∀ (l : List α) (s : β), P s → P (l.foldl f s)
  | [], _, h => h
  | e :: r, s, h => Zd6 P hf r _ (hf s e h)
theorem Znl {st : Zb} {ns : List (Option Zd)} : ∀ (m : Nat) (x : Zh) (s : WkS) (i : Nat), s.met i ≤ (wkG st ns m x s).met i
  | 0, _, _, _ => Nat.le_refl _
  | m + 1, x, s, i => by
    unfold wkG;refine Zd6 (fun t : WkS => s.met i ≤ t.met i) (fun t e h => ?_) _ _ (Nat.le_refl _)
    cases hb : QD ns t.met e.fId.toNat with
    | true => rw [Jk hb]; exact h
    | false => rw [Jw hb]; exact Nat.le_trans h (Nat.le_trans (Us _ _ i) (Znl m _ _ i))
theorem Zbl {st : Zb} {ns : List (Option Zd)} {x : Zh} {s : WkS} (h : ∀ i, s.met i ≤ 9) (hx : s.met x.fId.toNat < 9) : ∀ i, (ZT st ns x s).met i ≤ 9 := fun i => by
    show X7 s.met x.fId.toNat i ≤ 9
    by_cases e : i = x.fId.toNat
    · rw [e, Xw]; omega
    · rw [Q2 e]; exact h i
theorem Znm {st : Zb} {ns : List (Option Zd)} : ∀ (m : Nat) (x : Zh) (s : WkS), (∀ i, s.met i ≤ 9) → ∀ i, (wkG st ns m x s).met i ≤ 9
  | 0, _, _, h => h
  | m + 1, x, s, h => by
    unfold wkG;refine Zd6 (fun t : WkS => ∀ i, t.met i ≤ 9) (fun t e h => ?_) _ _ h
    cases hb : QD ns t.met e.fId.toNat with
    | true => rw [Jk hb]; exact h
    | false => rw [Jw hb]; exact Znm m _ _ (Zbl h (Jx hb).2.2)
def XG (ns : List (Option Zd)) (met : Nat → Nat) : Nat := (List.range ns.length).countP fun i => isFN ns i && met i == 0
theorem Zcz {p q : Nat → Bool} : ∀ {l : List Nat}, (∀ x ∈ l, p x = true → q x = true) → ∀ {k : Nat}, k ∈ l → q k = true → p k = false → l.countP p + 1 ≤ l.countP q
  | [], _, _, hk, _, _ => by cases hk
  | y :: r, h, k, hk, h1, h2 => by
    have hr : ∀ x ∈ r, p x = true → q x = true := fun x hx => h x (List.mem_cons_of_mem _ hx)
    have hle := List.countP_mono_left hr;rw [List.countP_cons, List.countP_cons];rcases List.mem_cons.1 hk with e | hk
    · subst e
      rw [if_neg (by rw [h2]; decide), if_pos h1]; omega
    · have ih := Zcz hr hk h1 h2
      by_cases hp : p y = true
      · rw [if_pos hp, if_pos (h y (List.mem_cons_self ..) hp)]; omega
      · rw [if_neg hp]; omega
theorem UQ {ns : List (Option Zd)} {a b : Nat → Nat} (h : ∀ i, a i ≤ b i) : XG ns b ≤ XG ns a := by
  refine List.countP_mono_left fun i _ hi => ?_;simp only [Bool.and_eq_true, beq_iff_eq] at hi ⊢;exact ⟨hi.1, by have := h i; omega⟩
theorem Ut {ns : List (Option Zd)} {met : Nat → Nat} {k : Nat} (hf : isFN ns k = true) (h0 : met k = 0) : XG ns (X7 met k) + 1 ≤ XG ns met := by
  obtain ⟨n, hn, _⟩ := VW hf;refine Zcz (k := k) (fun i _ hi => ?_) (List.mem_range.2 (X6 (YS hn))) (by rw [hf, h0]; rfl) (by rw [Xw]; simp);simp only [Bool.and_eq_true, beq_iff_eq] at hi ⊢;refine ⟨hi.1, ?_⟩
  by_cases e : i = k
  · rw [e]; exact h0
  · have h2 := hi.2; rw [Q2 e] at h2; exact h2
theorem Zbm (ns : List (Option Zd)) (met : Nat → Nat) : XG ns met ≤ ns.length := by
  have := List.countP_le_length (p := fun i => isFN ns i && met i == 0) (l := List.range ns.length);rw [List.length_range] at this; exact this
def potW (ns : List (Option Zd)) (s : WkS) : Nat := s.pa.length + s.tr.length + 26 * XG ns s.met
theorem Zip (st : Zb) (ns : List (Option Zd)) (k : Nat) : (XB st ns k).length ≤ 1 := by
  unfold XB
  cases ns.getD k none with
  | none => exact Nat.zero_le _
  | some n => show (bif Jj st n then _ else _ : List Zc).length ≤ 1; cases Jj st n <;> simp
theorem Zd7 (st : Zb) (ns : List (Option Zd)) (x : Zh) (s : WkS) : (ZT st ns x s).tr.length ≤ s.tr.length + 1 ∧ (ZT st ns x s).pa.length = s.pa.length + 1 := by
  have h := Zip st ns x.fId.toNat;refine ⟨?_, by show (s.pa ++ [x]).length = _; rw [List.length_append]; rfl⟩;show (s.tr ++ _).length ≤ _;rw [List.length_append]
  cases (s.met x.fId.toNat == 0) with
  | true => show _ + (XB st ns x.fId.toNat).length ≤ _; omega
  | false => show _ + 0 ≤ _; omega
theorem Zb4 {st : Zb} {ns : List (Option Zd)} (x : Zh) (s : WkS) : potW ns (ZT st ns x s) ≤ potW ns s + 2 := by
  obtain ⟨h1, h2⟩ := Zd7 st ns x s;have := UQ (ns := ns) (Us (st := st) (ns := ns) x s);unfold potW; omega
theorem Zd8 {st : Zb} {ns : List (Option Zd)} {x : Zh} {s : WkS} (hf : isFN ns x.fId.toNat = true) (h0 : s.met x.fId.toNat = 0) : potW ns (ZT st ns x s) + 24 ≤ potW ns s := by
  obtain ⟨h1, h2⟩ := Zd7 st ns x s;have : XG ns (ZT st ns x s).met + 1 ≤ XG ns s.met := Ut hf h0;unfold potW; omega
theorem Zb5 {st : Zb} {ns : List (Option Zd)} {k : Nat} (h : isFN ns k = false) : Ze st ns k = [] := by
  cases hn : ns.getD k none with
  | none => exact Zfy hn
  | some n =>
    rw [VV hn] at h;exact Ur hn (by simpa using h)
theorem Zhj {α β : Type} (P : β → Nat) {f : β → α → β} (hf : ∀ s e, P (f s e) ≤ P s + 2) : ∀ (l : List α) (s : β), P (l.foldl f s) ≤ P s + 2 * l.length
  | [], _ => Nat.le_refl _
  | e :: r, s => by
    have h1 := Zhj P hf r (f s e);have h2 := hf s e;rw [List.foldl_cons, List.length_cons]; omega
theorem Zje {st : Zb} {ns : List (Option Zd)} {g : Zh → WkS → WkS} (hg : ∀ x s, potW ns (g x s) ≤ potW ns s + 24) (hg0 : ∀ x s, isFN ns x.fId.toNat = false → g x s = s) (x : Zh) (s : WkS) (e : Za) : potW ns (Jv st ns g x s e) ≤ potW ns s + 2 := by
  cases hb : QD ns s.met e.fId.toNat with
  | true =>
    rw [Jk hb];show s.pa.length + (s.tr ++ [_]).length + 26 * XG ns s.met ≤ _;rw [List.length_append]; unfold potW;show _ + (_ + 1) + _ ≤ _
    omega
  | false =>
    rw [Jw hb]
    cases hf : isFN ns e.fId.toNat with
    | true =>
      have h1 := Zd8 (st := st) (x := ⟨ZP x.fPath e.fName, e.fId⟩) (s := s) hf ((Jx hb).2.1 hf);have h2 := hg ⟨ZP x.fPath e.fName, e.fId⟩ (ZT st ns ⟨ZP x.fPath e.fName, e.fId⟩ s)
      omega
    | false => rw [hg0 _ _ hf]; exact Zb4 _ _
theorem Zlw {st : Zb} {ns : List (Option Zd)} : ∀ (m : Nat) (x : Zh) (s : WkS), potW ns (wkG st ns m x s) ≤ potW ns s + 24
  | 0, _, _ => Nat.le_add_right _ _
  | m + 1, x, s => by
    unfold wkG;have h := Zhj (potW ns) (Zje (st := st) (ns := ns) (g := wkG st ns m) (Zlw m) (fun x s hf => Zbk (Zb5 hf) m s) x) (Ze st ns x.fId.toNat) s;have h12 := (Qu (VX (st := st) (ns := ns) x.fId.toNat)).2
    omega
def rkW (ns : List (Option Zd)) (k : Nat) (s : WkS) : Nat := 2 * XG ns s.met + (if isFN ns k then 1 else 0)
def Vo (ns : List (Option Zd)) (k : Nat) (s : WkS) : Nat := potW ns s + (if isFN ns k then 24 else 0)
structure WkI (ns : List (Option Zd)) (s t : WkS) (i : Nat) : Prop where
  un : XG ns t.met ≤ XG ns s.met
  pot : potW ns t ≤ potW ns s + 2 * i
  m9 : ∀ i, t.met i ≤ 9
  mono : ∀ i, s.met i ≤ t.met i
theorem WkI.start {ns : List (Option Zd)} {s : WkS} (h : ∀ i, s.met i ≤ 9) : WkI ns s s 0 := ⟨Nat.le_refl _, Nat.le_refl _, h, fun _ => Nat.le_refl _⟩
theorem WkI.step {st : Zb} {ns : List (Option Zd)} {s t : WkS} {i m : Nat} (h : WkI ns s t i) (x : Zh) (e : Za) : WkI ns s (Jv st ns (wkG st ns m) x t e) (i + 1) := by
  have hm : ∀ j, t.met j ≤ (Jv st ns (wkG st ns m) x t e).met j := fun j => by
    cases hb : QD ns t.met e.fId.toNat with
    | true => rw [Jk hb]; exact Nat.le_refl _
    | false => rw [Jw hb]; exact Nat.le_trans (Us _ _ j) (Znl m _ _ j)
  refine ⟨Nat.le_trans (UQ hm) h.un, ?_, ?_, fun j => Nat.le_trans (h.mono j) (hm j)⟩
  · have h1 := Zje (st := st) (ns := ns) (g := wkG st ns m) (Zlw m) (fun x s hf => Zbk (Zb5 hf) m s) x t e
    have h2 := h.pot
    omega
  · cases hb : QD ns t.met e.fId.toNat with
    | true => rw [Jk hb]; exact h.m9
    | false => rw [Jw hb]; exact Znm m _ _ (Zbl h.m9 (Jx hb).2.2)
theorem WkI.child {st : Zb} {ns : List (Option Zd)} {s t : WkS} {i k : Nat} (h : WkI ns s t i) (hi : i < 12) (hk : isFN ns k = true) (y : Zh) (hb : QD ns t.met y.fId.toNat = false) : rkW ns y.fId.toNat (ZT st ns y t) < rkW ns k s ∧ Vo ns y.fId.toNat (ZT st ns y t) ≤ Vo ns k s := by
  obtain ⟨h1, h2, h3, _⟩ := h;unfold rkW Vo;rw [hk, if_pos rfl, if_pos rfl]
  cases hf : isFN ns y.fId.toNat with
  | true =>
    have a : XG ns (ZT st ns y t).met + 1 ≤ XG ns t.met := Ut hf ((Jx hb).2.1 hf);have b := Zd8 (st := st) hf ((Jx hb).2.1 hf);rw [if_pos rfl, if_pos rfl]; omega
  | false =>
    have a := UQ (ns := ns) (Us (st := st) (ns := ns) y t);have b := Zb4 (st := st) (ns := ns) y t;rw [if_neg (by decide), if_neg (by decide)]; omega
structure WkH (st : Zb) (ns : List (Option Zd)) (m k : Nat) (nms : List ByteArray) (s : WkS) : Prop where
  v : ZX ns k = true
  m9 : ∀ i, s.met i ≤ 9
  k9 : s.met k < 9
  f0 : isFN ns k = true → s.met k = 0
  rank : rkW ns k (ZT st ns ⟨Zm nms, (k : Int)⟩ s) < m
  room : Vo ns k (ZT st ns ⟨Zm nms, (k : Int)⟩ s) ≤ 800
  deep : nms.length + XG ns (ZT st ns ⟨Zm nms, (k : Int)⟩ s).met + (if isFN ns k then 1 else 0) ≤ 18
  nm : ∀ x ∈ nms, x.size ≠ 0 ∧ x.size ≤ 4
theorem WkH.vis {st : Zb} {ns : List (Option Zd)} {m k : Nat} {nms : List ByteArray} {s : WkS} (h : WkH st ns m k nms s) : WkI ns (ZT st ns ⟨Zm nms, (k : Int)⟩ s) (ZT st ns ⟨Zm nms, (k : Int)⟩ s) 0 :=
  WkI.start (Zbl h.m9 (by show s.met (k : Int).toNat < 9; rw [Int.toNat_natCast]; exact h.k9))
theorem WkH.size {st : Zb} {ns : List (Option Zd)} {m k : Nat} {nms : List ByteArray} {s : WkS} (h : WkH st ns m k nms s) : s.tr.length + s.pa.length ≤ 800 ∧ nms.length ≤ 18 := by
  have h1 := h.room;have h2 := h.deep;have h3 : s.tr.length ≤ (ZT st ns ⟨Zm nms, (k : Int)⟩ s).tr.length := by
    show s.tr.length ≤ (s.tr ++ _).length;rw [List.length_append]; omega
  have h4 := (Zd7 st ns ⟨Zm nms, (k : Int)⟩ s).2;unfold Vo potW at h1
  constructor <;> omega
theorem WkI.size {ns : List (Option Zd)} {s t : WkS} {i : Nat} (h : WkI ns s t i) (hi : i ≤ 12) {k : Nat} (hk : isFN ns k = true) (hr : Vo ns k s ≤ 800) : t.tr.length + t.pa.length ≤ 800 := by
  have h1 := h.pot;unfold Vo at hr;rw [hk, if_pos rfl] at hr;have h2 : potW ns t = t.pa.length + t.tr.length + 26 * XG ns t.met := rfl
  omega
theorem WkH.child {st : Zb} {ns : List (Option Zd)} {m k i j : Nat} {nms : List ByteArray} {s t : WkS} {c : ByteArray} (h : WkH st ns (m + 1) k nms s) (hk : isFN ns k = true) (hI : WkI ns (ZT st ns ⟨Zm nms, (k : Int)⟩ s) t i) (hi : i < 12) (hb : QD ns t.met j = false) (hc : c.size ≠ 0 ∧ c.size ≤ 4) : WkH st ns m j (nms ++ [c]) t := by
  obtain ⟨b1, b2, b3⟩ := Jx hb;obtain ⟨c1, c2⟩ := hI.child (st := st) hi hk ⟨Zm (nms ++ [c]), (j : Int)⟩ (by show QD ns t.met (j : Int).toNat = false; rw [Int.toNat_natCast]; exact hb);have e : (⟨Zm (nms ++ [c]), (j : Int)⟩ : Zh).fId.toNat = j := Int.toNat_natCast j;rw [e] at c1 c2;have h1 := h.rank;have h2 := h.room;have h3 := h.deep;refine ⟨b1, hI.m9, b3, b2, by omega, by omega, ?_, Zlv h.nm hc⟩;have h4 := hI.un;rw [hk, if_pos rfl] at h3;rw [List.length_append];show nms.length + 1 + _ + _ ≤ 18
  cases hf : isFN ns j with
  | true =>
    have h5 : XG ns (ZT st ns ⟨Zm (nms ++ [c]), (j : Int)⟩ t).met + 1 ≤ XG ns t.met := Ut (k := (j : Int).toNat) (by rw [Int.toNat_natCast]; exact hf) (by rw [Int.toNat_natCast]; exact b2 hf);rw [if_pos rfl]; omega
  | false =>
    have h5 := UQ (ns := ns) (Us (st := st) (ns := ns) ⟨Zm (nms ++ [c]), (j : Int)⟩ t);rw [if_neg (by decide)]; omega
def QK (ns : List (Option Zd)) (met : Nat → Nat) (k : Nat) : List Zc := match ns.getD k none with
  | none => []
  | some n => if met k = 0 then [⟨5, (k : Int), ByteArray.empty⟩] else if (met k : Int) = n.fLinks then [] else [⟨4, (k : Int), ByteArray.empty⟩]
noncomputable def Yz (st : Zb) (ns : List (Option Zd)) : WkS := wkG st ns 40 Xa (ZT st ns Xa ⟨fun _ => 0, [], []⟩)
noncomputable def Ua (st : Zb) (ns : List (Option Zd)) : List Zc := bif isFN ns 0 then (Yz st ns).tr ++ (List.range ns.length).flatMap (QK ns (Yz st ns).met) else [⟨1, 0, ByteArray.empty⟩]
noncomputable def ZfA (st : Zb) (ns : List (Option Zd)) : Option (List Zh) := bif isFN ns 0 then some (Yz st ns).pa else none
theorem Zb6 {st : Zb} {ns : List (Option Zd)} (h : isFN ns 0 = true) (hn : ns.length ≤ 16) : rkW ns 0 (ZT st ns Xa ⟨fun _ => 0, [], []⟩) < 40 ∧ Vo ns 0 (ZT st ns Xa ⟨fun _ => 0, [], []⟩) ≤ 800 := by
  have h1 := Zbm ns (ZT st ns Xa ⟨fun _ => 0, [], []⟩).met;have h2 := Zb4 (st := st) (ns := ns) Xa ⟨fun _ => 0, [], []⟩;have h3 := Zbm ns (fun _ => 0);have h4 : potW ns ⟨fun _ => 0, [], []⟩ = 0 + 0 + 26 * XG ns (fun _ => 0) := rfl;unfold rkW Vo;rw [h, if_pos rfl, if_pos rfl]; omega
open Go.RowKit
def Zt.give (s : Zt) (a : Nat) : Zt := { fRefs := s.fRefs.set a (s.fRefs.getD a 0 - 1), fLast := if s.fRefs.getD a 0 - 1 = 0 then s.fLast.set a 0 else s.fLast }
def Zb.drop (st : Zb) (a : Nat) : Zb := { st with fSpace := st.fSpace.give a, fRows := if st.fSpace.fRefs.getD a 0 - 1 = 0 then st.fRows.set a ByteArray.empty else st.fRows }
def Zb.drops (st : Zb) (ps : List PtrD) : Zb := ps.foldl (fun st p => st.drop p.fAt.toNat) st
def Zb.next (st : Zb) : Zb := { st.drops st.fGone with fGone := [], fTxg := st.fTxg + 1 }
end Go.Proofs.YtigjfacaofgjjaaGreatDoor
