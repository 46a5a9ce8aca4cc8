/- A part of the proof in YtigjfacaofgjjaaGreatDoorFlZ32. -/
import Derived.Shelf.Strconv.Clone
import Derived.Shelf.Strings.Cut
import Derived.Test.YtigjfacaofgjjaaGreatDoorFlZ20
namespace Go.Proofs.YtigjfacaofgjjaaGreatDoor
set_option linter.unusedVariables false
set_option linter.unusedSimpArgs false
set_option maxHeartbeats 1000000
set_option maxRecDepth 100000
open Go.Shelf
def Zi3 : Go.Shelf.Ren := ⟨fun | 145 => 207 | 217 => 290 | 219 => 277 | 220 => 251 | 224 => 292 | 225 => 291 | 266 => 305 | 267 => 293 | 314 => 306 | n => n, fun | 3 => 3 | 4 => 4 | 5 => 5 | 9 => 9 | 46 => 240 | 51 => 268 | 59 => 228 | 146 => 269 | n => n, fun | 1 => 0 | n => n⟩
theorem Zl4 : Go.Proofs.Lays.n145 Tryz.prog Zi3 := {
  mixed := by kernel_rfl
  f145 := Tryz.func207.trans (congrArg some (by kernel_rfl))
  f217 := Tryz.func290.trans (congrArg some (by kernel_rfl))
  f219 := Tryz.func277.trans (congrArg some (by kernel_rfl))
  f220 := Tryz.func251.trans (congrArg some (by kernel_rfl))
  f224 := Tryz.func292.trans (congrArg some (by kernel_rfl))
  f225 := Tryz.func291.trans (congrArg some (by kernel_rfl))
  f266 := Tryz.func305.trans (congrArg some (by kernel_rfl))
  f267 := Tryz.func293.trans (congrArg some (by kernel_rfl))
  f314 := Tryz.func306.trans (congrArg some (by kernel_rfl))
  t3 := Tryz.underlying3
  a3 := Tryz.isAgg3
  z3 := Tryz.sizeOf3
  v3 := Tryz.zeroValue3
  t4 := Tryz.underlying4
  a4 := Tryz.isAgg4
  z4 := Tryz.sizeOf4
  v4 := Tryz.zeroValue4
  t5 := Tryz.underlying5
  a5 := Tryz.isAgg5
  z5 := Tryz.sizeOf5
  v5 := Tryz.zeroValue5
  t9 := Tryz.underlying9
  a9 := Tryz.isAgg9
  z9 := Tryz.sizeOf9
  v9 := Tryz.zeroValue9
  t46 := Tryz.underlying240
  a46 := Tryz.isAgg240
  z46 := Tryz.sizeOf240
  v46 := Tryz.zeroValue240
  t51 := Tryz.underlying268
  a51 := Tryz.isAgg268
  z51 := Tryz.sizeOf268
  v51 := Tryz.zeroValue268
  t59 := Tryz.underlying228
  a59 := Tryz.isAgg228
  z59 := Tryz.sizeOf228
  v59 := Tryz.zeroValue228
  t146 := Tryz.underlying269
  a146 := Tryz.isAgg269
  z146 := Tryz.sizeOf269
  v146 := Tryz.zeroValue269
  g1 := by kernel_rfl }
def Zgy : Go.Shelf.Ren := ⟨fun | 316 => 253 | n => n, fun | 0 => 0 | 3 => 3 | 4 => 4 | 5 => 5 | 9 => 9 | 37 => 153 | 127 => 210 | n => n, fun | n => n⟩
theorem Zl5 : Go.Proofs.LaysM.n316 Tryz.prog Zgy := {
  mixed := by kernel_rfl
  f316 := Tryz.func253.trans (congrArg some (by kernel_rfl))
  t0 := Tryz.underlying0
  a0 := Tryz.isAgg0
  z0 := Tryz.sizeOf0
  v0 := Tryz.zeroValue0
  t3 := Tryz.underlying3
  a3 := Tryz.isAgg3
  z3 := Tryz.sizeOf3
  v3 := Tryz.zeroValue3
  t4 := Tryz.underlying4
  a4 := Tryz.isAgg4
  z4 := Tryz.sizeOf4
  v4 := Tryz.zeroValue4
  t9 := Tryz.underlying9
  a9 := Tryz.isAgg9
  z9 := Tryz.sizeOf9
  v9 := Tryz.zeroValue9
  t37 := Tryz.underlying153
  a37 := Tryz.isAgg153
  z37 := Tryz.sizeOf153
  v37 := Tryz.zeroValue153
  t127 := Tryz.underlying210
  a127 := Tryz.isAgg210
  z127 := Tryz.sizeOf210
  v127 := Tryz.zeroValue210
  t5 := Tryz.underlying5
  a5 := Tryz.isAgg5
  z5 := Tryz.sizeOf5
  v5 := Tryz.zeroValue5
  i0 := by kernel_rfl
  i3 := by kernel_rfl
  i4 := by kernel_rfl
  i5 := by kernel_rfl
  i9 := by kernel_rfl
  i37 := by kernel_rfl
  i127 := by kernel_rfl }
open Go.RowKit
theorem Zng (s : ByteArray) (w : World) (hM : QF w) (hs : s.size ≤ 4294967280) : Calls Tryz.prog 207 #[.string s, .string ⟨#[58]⟩] w fun e w' => ((58 : UInt8) ∉ s.data.toList ∧ (∃ b a : ByteArray, e = .returned (.tuple #[.string b, .string a, .bool false])) ∧ Below w.heap.size w w') ∨ (∃ num tail : ByteArray, s.data.toList = num.data.toList ++ 58 :: tail.data.toList ∧ (58 : UInt8) ∉ num.data.toList ∧ e = .returned (.tuple #[.string num, .string tail, .bool true]) ∧ Below w.heap.size w w') := by
  obtain ⟨m, hm⟩ := hM;refine (Any.strings_Cut Zl4 s ⟨#[58]⟩ m w (by omega) hm).mono ?_;rintro e w' ⟨rfl, n, rfl⟩;rcases ZfI 58 s.data.toList with ⟨h1, h2⟩ | ⟨d, t, h1, h2, h3⟩
  · refine .inl ⟨h1, ⟨⟨(Go.Lib.cut s.data.toList [58]).1.toArray⟩, ⟨(Go.Lib.cut s.data.toList [58]).2.1.toArray⟩, ?_⟩, ZG _ _ _⟩
    show Ending.returned (.tuple #[_, _, .bool (Go.Lib.cut s.data.toList [58]).2.2]) = _;rw [h2]
  · refine .inr ⟨⟨d.toArray⟩, ⟨t.toArray⟩, h1, h2, ?_, ZG _ _ _⟩
    show Ending.returned (.tuple #[.string ⟨(Go.Lib.cut s.data.toList [58]).1.toArray⟩, .string ⟨(Go.Lib.cut s.data.toList [58]).2.1.toArray⟩, .bool (Go.Lib.cut s.data.toList [58]).2.2]) = _;rw [h3]
theorem ZdW (s : ByteArray) (w0 : World) (hs : s.size ≤ 281474976710656) : Calls Tryz.prog 209 #[.string s] w0 fun e w' => e = .returned (.string s) ∧ Below w0.heap.size w0 w' := by
 have HS := Bx.mk (St.start w0);refine Zg Tryz.func209 rfl Tryz.ntmps209 [(0, .string s)] ⟨rfl, trivial⟩ rfl ?_;refine xsr<|xr 1 rfl<|xne<|xsr<|xr 1 rfl ?_;intro a HF;refine ycB (Any.stringslite_Clone Zl5 s _ (by omega)) HF Tryz.func253 HS ?_; clear HF HS a; intro w1 a HS HF;revert a;refine xr 1 rfl<|xne<|xre<|xb1 Tryz.results209 rfl ?_;exact ⟨rfl, HS.out.bel⟩
theorem Ze7 (s : ByteArray) (w0 : World) (hT : X1 w0) (hM : QF w0) (hE : Q7 w0) (hs : s.size ≤ 9223372036854775807) : Calls Tryz.prog 249 #[.string s] w0 fun e w' => (∃ xs, IsRec s xs ∧ s.size ≤ 2048 ∧ ∃ ao cp, e = .returned (.tuple #[.slice ao xs.length cp, .bool true]) ∧ St w0 [Zh Zk 1 9 (.slice ao xs.length cp) xs] w') ∨ ((∀ l, IsRec s l → s.size ≤ 2048 → False) ∧ e = .returned (.tuple #[.slice none 0 0, .bool false]) ∧ Below w0.heap.size w0 w') := by
 have HT := Bx.mk hT; have HM := Bx.mk hM; have HE := Bx.mk hE; clear hT hM hE;have HS := Bx.mk (St.start w0);refine Zg Tryz.func249 rfl Tryz.ntmps249 [(0, .string s)] ⟨rfl, trivial⟩ rfl ?_;refine xsr<|xr 2 rfl<|xne<|xsq<|xsr<|xr 1 rfl<|xy rfl (fun a HF=>ZQ rfl (HF.ev rfl) (by kernel_rfl))<|xr 1 rfl<|xne<|xcs 13 rfl (fun cc1=>?_) fun cc1=>?_;have dcc1 := of_decide_eq_true cc1;refine xct rfl<|xsr<|xr 2 rfl<|xne<|xre<|xtr<|xb2 Tryz.results249 rfl rfl ?_;exact .inr ⟨fun l h h2 => absurd h2 (by omega), rfl, HS.out.bel⟩;have dcc1 := of_decide_eq_false cc1;refine xcf rfl<|xsk<|xet<|xsq ?_;have hsz : s.size ≤ 2048 := by omega
 refine xrl<|xr 1 rfl<|xne<|xsq<|xsr<|xr 2 rfl<|xne<|xbl ?_;replace HS := Bx.mk (HS.out.nilRow Zk 1 9 none);intro a HF;refine Zv (ι := Nat) (fun k a w => ∃ (ao : Option Addr) (cp : Nat) (xs : List ByteArray) (rest : ByteArray), (k = rest.size ∧ Jv s xs rest ∧ xs.length ≤ 60) ∧ Fr 56 a [(0, .string s), (4, .slice ao xs.length cp), (5, .string rest)] ∧ St w0 ([Zh Zk 1 9 (.slice ao xs.length cp) xs]) w) (fun k => k) s.size ⟨_, _, [], s, ⟨rfl, Jv.zero s, Nat.zero_le _⟩, HF.less _ ⟨rfl, rfl, rfl, trivial⟩, HS.out⟩ ?_;clear HF HS; clear a;rintro k a w1 ⟨ao, cp, xs, rest, ⟨hkr, hto, hxl⟩, HF, HS⟩;replace HS := Bx.mk HS;have hrs := hto.size;revert a;refine xsq<|xsr<|xr 1 rfl<|xy rfl (fun a HF=>Xs rfl (HF.ev rfl) (HF.ev rfl))<|xne<|xcs 16 rfl (fun cc2=>?_) fun cc2=>?_
 have hre : (rest.toList == (⟨#[]⟩ : ByteArray).toList) = false := by simpa using cc2
 refine xct rfl<|xsk<|xet<|xbl<|xsr<|xr 1 rfl ?_;intro a HF;refine yc (Zng rest _ (HM.out.below HS.out.bel) (by omega)) HF Tryz.func207 ?_;rintro _ w2 (⟨h58, ⟨cb, ca, rfl⟩, hb⟩ | ⟨num, tail, hcut, h58, rfl, hb⟩);refine ⟨_, rfl, ?_⟩; replace HS := Bx.mk (HS.out.later hb);clear hb HF a;refine xr 7 rfl<|xne<|xsr<|xr 1 rfl ?_;intro a HF;refine yc (ZA cb _ (HT.out.below HS.out.bel) (HE.out.below HS.out.bel)) HF Tryz.func208 ?_;rintro _ w3 (⟨n, hng, rfl, hb⟩ | ⟨hng, rfl, hb⟩);refine ⟨_, rfl, ?_⟩; replace HS := Bx.mk (HS.out.later hb);clear hb HF a;refine xr 5 rfl<|xne<|xsq<|xsr<|xr 17 rfl<|xne<|xct rfl<|xsr<|xr 2 rfl<|xne<|xre<|xtr<|xbr<|xtr<|xbr<|xtr<|xb2 Tryz.results249 rfl rfl ?_;refine .inr ⟨fun l h h2 => ?_, rfl, HS.out.bel⟩;obtain ⟨y, ws, e1, e2, e3, e4⟩ := hto.go h.is h2 h.many hre;exact h58 (by rw [e2]; simp);refine ⟨_, rfl, ?_⟩; replace HS := Bx.mk (HS.out.later hb);clear hb HF a;refine xr 5 rfl<|xne<|xsq<|xsr<|xr 17 rfl<|xne<|xct rfl<|xsr<|xr 2 rfl<|xne<|xre<|xtr<|xbr<|xtr<|xbr<|xtr<|xb2 Tryz.results249 rfl rfl ?_;refine .inr ⟨fun l h h2 => ?_, rfl, HS.out.bel⟩;obtain ⟨y, ws, e1, e2, e3, e4⟩ := hto.go h.is h2 h.many hre;exact h58 (by rw [e2]; simp);refine ⟨_, rfl, ?_⟩; replace HS := Bx.mk (HS.out.later hb);clear hb HF a;intro a HF;have htl : tail.size ≤ 2048 := by have h1 := congrArg List.length hcut; rw [List.length_append, List.length_cons] at h1; have h2 := Zf rest; have h3 := Zf tail; have h4 := hto.size; omega
 revert a;refine xr 7 rfl<|xne<|xsr<|xr 1 rfl ?_;intro a HF;refine yc (ZA num _ (HT.out.below HS.out.bel) (HE.out.below HS.out.bel)) HF Tryz.func208 ?_;rintro _ w4 (⟨n, hng, rfl, hb⟩ | ⟨hng, rfl, hb⟩);refine ⟨_, rfl, ?_⟩; replace HS := Bx.mk (HS.out.later hb);clear hb HF a;refine xr 5 rfl<|xne<|xsq<|xsr<|xr 9 rfl<|xy rfl (fun a HF=>ZQ rfl (HF.ev rfl) (by kernel_rfl))<|xr 3 rfl<|xcs 40 rfl (fun cc3=>?_) fun cc3=>?_;have dcc3 := of_decide_eq_true cc3;refine xr 4 rfl<|xne<|xct rfl<|xsr<|xr 2 rfl<|xne<|xre<|xtr<|xbr<|xtr<|xbr<|xtr<|xb2 Tryz.results249 rfl rfl ?_;refine .inr ⟨fun l h h2 => ?_, rfl, HS.out.bel⟩;obtain ⟨y, ws, e1, e2, e3, e4⟩ := hto.go h.is h2 h.many hre;have e5 := Zgx (JX y.size) h58 (e2.symm.trans hcut);rw [Ys e5.1] at e3; have e6 := Option.some.inj (e3.symm.trans hng); have e7 := congrArg List.length e5.2; rw [List.length_append] at e7; have e8 := Zf y; have e9 := Zf tail; omega;have dcc3 := of_decide_eq_false cc3;refine xr 1 rfl<|xy rfl (vn 9 1 rfl)<|xr 2 rfl<|xne<|xcs 44 rfl (fun cc4=>?_) fun cc4=>?_;have dcc4 := eq_of_beq cc4;refine xct rfl<|xsr<|xr 2 rfl<|xne<|xre<|xtr<|xbr<|xtr<|xbr<|xtr<|xb2 Tryz.results249 rfl rfl ?_;refine .inr ⟨fun l h h2 => ?_, rfl, HS.out.bel⟩;obtain ⟨y, ws, e1, e2, e3, e4⟩ := hto.go h.is h2 h.many hre;have e5 := Zgx (JX y.size) h58 (e2.symm.trans hcut);rw [Ys e5.1] at e3; have e6 := Option.some.inj (e3.symm.trans hng); have e7 := congrArg List.length e5.2; rw [List.length_append] at e7; have e8 := Zf y; have e9 := Zf tail; omega;have dcc4 := ne_of_beq_false cc4;refine xcf rfl<|xsk<|xet<|xsr<|xr 3 rfl<|xy rfl (fun a HF=>ZdL (k := n) rfl (HF.ev rfl) (HF.ev rfl) (by kernel_rfl) (by omega) (by omega)) ?_;intro a HF;refine ycB (ZdW (tail.extract 0 n) _ (by rw [ByteArray.size_extract]; omega)) HF Tryz.func209 HS ?_; clear HF HS a; intro w5 a HS HF;refine ybs Zk 9 1 [tail.extract 0 n] HF HS ?_;clear HF HS a;intro b1 a w6 HF HS;refine yap Y1 encS_len HS 1 HF (St.rdN HS.out encS_len 0 rfl) (Zy _) ?_;clear HF HS a;intro ao2 cp3 w7 a HF HS
 try dsimp only [List.eraseIdx] at HS
 revert a;refine xr 1 rfl<|xne<|xrl<|xr 2 rfl<|xy rfl (fun a HF=>V7 (k := n) rfl (HF.ev rfl) (HF.ev rfl) (by kernel_rfl) (by omega) (by omega))<|xr 1 rfl<|xni<|xeb<|xet ?_;have hz : xs.length + ([tail.extract 0 n]).length = (xs ++ ([tail.extract 0 n])).length := (List.length_append ..).symm;intro a HF;rw [hz] at HS HF;have hto2 := hto.step hcut hng (by omega);have hlt : (tail.extract n tail.size).size < rest.size := by have h1 := congrArg List.length hcut; rw [List.length_append, List.length_cons] at h1; have h2 := Zf rest; have h3 := Zf tail; rw [ByteArray.size_extract]; omega
 replace HS:=Bx.mk (HS.out.pick 1 rfl);exact ⟨(tail.extract n tail.size).size, ⟨_, _, xs ++ ([tail.extract 0 n]), tail.extract n tail.size, ⟨rfl, hto2, by rw [List.length_append, List.length_cons, List.length_nil]; omega⟩, HF.less _ ⟨rfl, rfl, rfl, trivial⟩, (HS.out.erase 1)⟩, (by rw [hkr]; exact hlt)⟩;refine ⟨_, rfl, ?_⟩; replace HS := Bx.mk (HS.out.later hb);clear hb HF a;refine xr 5 rfl<|xne<|xsq<|xsr<|xr 17 rfl<|xne<|xct rfl<|xsr<|xr 2 rfl<|xne<|xre<|xtr<|xbr<|xtr<|xbr<|xtr<|xb2 Tryz.results249 rfl rfl ?_;refine .inr ⟨fun l h h2 => ?_, rfl, HS.out.bel⟩;obtain ⟨y, ws, e1, e2, e3, e4⟩ := hto.go h.is h2 h.many hre;have e5 := Zgx (JX y.size) h58 (e2.symm.trans hcut);rw [Ys e5.1] at e3; rw [e3] at hng; cases hng;have hre : (rest.toList == (⟨#[]⟩ : ByteArray).toList) = true := by simpa using cc2
 refine xcf rfl<|xex<|xtx<|xtx<|xbh<|xet<|xsr<|xr 3 rfl<|xne<|xre<|xb2 Tryz.results249 rfl rfl ?_;replace HS:=Bx.mk (HS.out.pick 0 rfl);exact .inl ⟨xs, ⟨hto.done hre, hxl⟩, hsz, _, _, rfl, HS.out⟩
open Go.RowKit
theorem Zl6 (n : Nat) : ∀ x ∈ (ZE n).data.toList, x ≠ 46 := by
  intro x hx e;subst e;rw [Z8] at hx;obtain ⟨d, hd⟩ := QE n 46 hx;obtain ⟨h1, h10⟩ := QD hd;have hn : (UInt8.ofNat (48 + d)).toNat = 48 + d := by rw [UInt8.toNat_ofNat']; omega
  rw [← h1] at hn;have : (46 : UInt8).toNat = 46 := rfl
  omega
theorem UY {n : Int} (h : 0 ≤ n ∧ n ≤ 999999999) : ∀ x ∈ (Zs n).data.toList, x ≠ 46 := by rw [YH h.1 h.2]; exact Zl6 _
theorem Za0 {a : ByteArray} (h : ∀ x ∈ a.data.toList, x ≠ 46) (b : ByteArray) : Ze (a ++ (ZcN ++ b)) 46 = a :: Ze b 46 := by
  unfold Ze;rw [ZH, ZH, show ZcN.data.toList = [46] from rfl, List.singleton_append, QB 46 _ _ h, List.map_cons]
theorem Zgz {a : ByteArray} (h : ∀ x ∈ a.data.toList, x ≠ 46) : Ze a 46 = [a] := by
  unfold Ze;rw [QU 46 _ h, List.map_cons, List.map_nil]
theorem ZfJ (a b c : ByteArray) : a ++ b ++ c = a ++ (b ++ c) := Ys (by simp only [ZH, List.append_assoc])
theorem Yn {p : PtrD} (h : p.ok = true) (hh : p.hole = false) : Ze (ZN p) 46 = [Zs p.fAt, Zs p.fBirth, Zs p.fSize, Zs p.fSum, Zs p.fLevel] := by
  have hb := PtrD.ok_all h hh;rw [UT h hh];simp only [ZfJ];rw [Za0 (UY (by omega)), Za0 (UY (by omega)), Za0 (UY (by omega)), Za0 (UY (by omega)), Zgz (UY (by omega))]
theorem Z0 {n : Int} (h : 0 ≤ n ∧ n ≤ 999999999) : XV (Zs n) = some n.toNat := by rw [YH h.1 h.2]; exact UR (by omega)
theorem JY {n : Int} {m : Nat} (h : 0 ≤ n ∧ n ≤ 999999999) (hg : XV (Zs n) = some m) : (m : Int) = n := by
  rw [Z0 h] at hg;have := Option.some.inj hg
  omega
theorem VG {p : PtrD} (h : p.hole = true) : p = PtrD.zero := by
  unfold PtrD.hole at h;simp only [Bool.and_eq_true, beq_iff_eq] at h;obtain ⟨⟨⟨⟨h1, h2⟩, h3⟩, h4⟩, h5⟩ := h
  cases p
  simp only at h1 h2 h3 h4 h5;subst h1; subst h2; subst h3; subst h4; subst h5
  rfl
theorem Qj {p : PtrD} {s : ByteArray} (h : p.ok = true) (hs : ZN p = s) (hd : (s.toList == (⟨#[45]⟩ : ByteArray).toList) = false) : p.hole = false := by
  cases hh : p.hole with
  | false => rfl
  | true =>
    rw [Qa h hh] at hs;rw [← hs, show ((⟨#[45]⟩ : ByteArray).toList == (⟨#[45]⟩ : ByteArray).toList) = true from beq_self_eq_true _] at hd
    cases hd
theorem Zo7 {α : Type} {l : List α} (h : l.length = 5) : ∃ a b c d e, l = [a, b, c, d, e] := by
  match l, h with
  | [a, b, c, d, e], _ => exact ⟨a, b, c, d, e, rfl⟩
theorem Za1 {p q : PtrD} (hp : p.ok = true) (hq : q.ok = true) (h : ZN p = ZN q) : p = q := by
  cases h1 : p.hole with
  | true =>
    cases h2 : q.hole with
    | true => rw [VG h1, VG h2]
    | false =>
      have := Yn hq h2;rw [← h, Qa hp h1] at this;exact absurd (congrArg List.length this) (show ¬ (1 : Nat) = 5 by decide)
  | false =>
    cases h2 : q.hole with
    | true =>
      have := Yn hp h1;rw [h, Qa hq h2] at this;exact absurd (congrArg List.length this) (show ¬ (1 : Nat) = 5 by decide)
    | false =>
      have e1 := Yn hp h1;have e2 := Yn hq h2;rw [h, e2] at e1;have hb := PtrD.ok_all hp h1;have hc := PtrD.ok_all hq h2;simp only [List.cons.injEq, and_true] at e1;obtain ⟨k1, k2, k3, k4, k5⟩ := e1;have num : ∀ {m n : Int}, 0 ≤ m ∧ m ≤ 999999999 → 0 ≤ n ∧ n ≤ 999999999 → Zs m = Zs n → n = m := fun hm hn e => by
        have := Z0 hm;rw [e, Z0 hn] at this;have := Option.some.inj this
        omega
      have j1 := num (by omega) (by omega) k1;have j2 := num (by omega) (by omega) k2;have j3 := num (by omega) (by omega) k3;have j4 := num (by omega) (by omega) k4;have j5 := num (by omega) (by omega) k5
      cases p; cases q
      simp only at j1 j2 j3 j4 j5;subst j1; subst j2; subst j3; subst j4; subst j5
      rfl
theorem ZdX (s : ByteArray) (w0 : World) (hT : X1 w0) (hM : QF w0) (hE : Q7 w0) (hs : s.size ≤ 4294967280) : Calls Tryz.prog 263 #[.string s] w0 fun e w' => (∃ p : PtrD, p.ok = true ∧ ZN p = s ∧ e = .returned (.tuple #[pV p, .bool true]) ∧ Below w0.heap.size w0 w') ∨ ((∀ p : PtrD, p.ok = true → ZN p = s → False) ∧ e = .returned (.tuple #[az5, .bool false]) ∧ Below w0.heap.size w0 w') := by
 have HT := Bx.mk hT; have HM := Bx.mk hM; have HE := Bx.mk hE; clear hT hM hE;have HS := Bx.mk (St.start w0);refine Zg Tryz.func263 rfl Tryz.ntmps263 [(0, .string s)] ⟨rfl, trivial⟩ rfl ?_;refine xsr ?_;intro a HF;refine yal z5 HF HS ?_;clear HF HS a;intro a w1 b1 HF HS;revert a;refine xr 1 rfl<|xne<|xsq<|xsr<|xr 1 rfl<|xy rfl (fun a HF=>XK rfl (HF.ev rfl) (HF.ev rfl))<|xne<|xcs 12 rfl (fun cc1=>?_) fun cc1=>?_
 refine xct rfl<|xsr<|xy rfl (vb z5 rfl) ?_;intro a HF;refine yst HF HS 0 ?_;clear HS;intro w2 HS
 try dsimp only [List.set] at HS
 revert a;refine xr 1 rfl<|xne<|xre<|xtr ?_;intro a HF;refine ZI HF Tryz.results263 (HF.resBox rfl (HS.out.box 0 rfl) (by kernel_rfl)) (HF.res rfl) ?_;exact .inl ⟨PtrD.zero, by decide, (Qa (by decide) (by decide)).trans (ZJ cc1).symm, rfl, HS.out.bel⟩;refine xcf rfl<|xsk<|xet<|xsr ?_;intro a HF;refine yal z5 HF HS ?_;clear HF HS a;intro a w3 b2 HF HS;revert a;refine xne<|xsr<|xr 1 rfl ?_;intro a HF;refine yc (ZbU s 46 _ (by omega) (HM.out.below HS.out.bel)) HF Tryz.func167 ?_;rintro _ w4 ⟨ao3, cp3, rfl, hs⟩;refine ⟨_, rfl, ?_⟩;replace HS := Bx.mk (HS.out.add hs);clear hs HF a;intro a HF
 try dsimp only [List.eraseIdx] at HS
 revert a;refine xr 1 rfl<|xne<|xsr ?_;intro a HF;refine yc (ZfG b2 _) HF Tryz.func248 ?_;rintro _ w5 ⟨ao4, cp4, rfl, hs⟩;refine ⟨_, rfl, ?_⟩;replace HS := Bx.mk (HS.out.add hs);clear hs HF a;intro a HF
 try dsimp only [List.eraseIdx] at HS
 revert a;refine xr 1 rfl<|xne<|xsq<|xsr<|xr 1 rfl<|xy rfl (vn 9 1 rfl)<|xr 1 rfl<|xy rfl (vn 261 1 rfl)<|xr 1 rfl<|xne<|xcs 21 rfl (fun cc2=>?_) fun cc2=>?_
 have dcc2 := bne_iff_ne.1 cc2;refine xct rfl<|xsr<|xy rfl (vb z5 rfl) ?_;intro a HF;refine yst HF HS 3 ?_;clear HS;intro w6 HS
 try dsimp only [List.set] at HS
 revert a;refine xr 1 rfl<|xne<|xre<|xtr ?_;intro a HF;refine ZI HF Tryz.results263 (HF.resBox rfl (HS.out.box 3 rfl) (by kernel_rfl)) (HF.res rfl) ?_;refine .inr ⟨fun q hq hqs => ?_, rfl, HS.out.bel⟩;have hqh := Qj hq hqs (by simpa using cc1); have hqp := Yn hq hqh; rw [hqs] at hqp; have hqb := PtrD.ok_all hq hqh;rw [hqp] at dcc2; exact dcc2 rfl;have dcc2 := bne_eq_false_iff_eq.1 cc2;refine xcf rfl<|xsk<|xet<|xsq<|xsq ?_;intro a HF;obtain ⟨x0, x1, x2, x3, x4, hws⟩ := Zo7 (l := Ze s 46) (by omega); rw [hws] at HS HF;replace HF : Fr 51 a [(0, .string s), (2, .pointer (some ⟨b1, 0, none⟩)), (3, .bool false), (11, .string s), (12, .bool false), (4, .pointer (some ⟨b2, 0, none⟩)), (14, .string s), (15, .slice ao3 5 cp3), (5, .slice ao3 5 cp3), (16, .slice ao4 5 cp4), (6, .slice ao4 5 cp4), (17, .slice ao3 5 cp3), (19, .slice ao4 5 cp4), (20, .int .i64 (5 : Int)), (21, .bool false)] := HF.less _ ⟨rfl, rfl, rfl, rfl, rfl, rfl, rfl, rfl, rfl, rfl, rfl, rfl, rfl, rfl, rfl, trivial⟩
 try dsimp only [List.eraseIdx] at HS
 obtain ⟨g5, rfl, _, _, _, _⟩ := HS.out.rowOpen 1 rfl (Nat.succ_pos _);obtain ⟨g6, rfl, _, _, _, _⟩ := HS.out.rowOpen 0 rfl (Nat.succ_pos _);revert a;refine xrl<|xr 1 rfl<|xy rfl (vn 9 1 rfl)<|xr 1 rfl<|xne<|xbl ?_;intro a HF;refine ZbR 6 ?_;revert a;refine xsr<|xr 1 rfl<|xne<|xsq ?_;intro a HF;replace HF := HF.know (k := 26) (c := true) rfl (by decide);revert a;refine xct rfl<|xsk<|xet<|xsq<|xbl<|xsr<|xr 1 rfl<|xy rfl (vx 9 0 1 rfl)<|xy rfl (ve encS_len HS.out 1 0 rfl rfl rfl rfl)<|xr 2 rfl<|xne<|xsr<|xr 1 rfl ?_;intro a HF;refine yc (ZA x0 _ (HT.out.below HS.out.bel) (HE.out.below HS.out.bel)) HF Tryz.func208 ?_;rintro _ w7 (⟨n7, hg7, rfl, hb⟩ | ⟨hg7, rfl, hb⟩);refine ⟨_, rfl, ?_⟩; replace HS := Bx.mk (HS.out.later hb);clear hb HF a;refine xr 5 rfl<|xne<|xsq<|xsr<|xr 2 rfl<|xne<|xcf rfl<|xsk<|xet<|xrl<|xr 2 rfl<|xy rfl (vx 261 0 1 rfl)<|xy rfl (ve YR HS.out 0 0 rfl rfl rfl rfl)<|xr 2 rfl ?_;intro a HF;refine Z6 rfl rfl rfl (HF.ev rfl) (HF.ev rfl) (by kernel_rfl) HS.out 2 rfl rfl rfl ?_; clear HS; intro w8 HS; replace HS := Bx.mk HS
 try dsimp only [List.set] at HS
 revert a;refine xni<|xeb<|xet<|xrl<|xy rfl (fun a HF=>Y2 (r := 1) rfl (HF.ev rfl) (HF.ev rfl) (by decide))<|xr 1 rfl<|xne ?_;intro a HF;refine Y6 5 ?_;revert a;refine xsr<|xr 1 rfl<|xne<|xsq ?_;intro a HF;replace HF := HF.know (k := 26) (c := true) rfl (by decide);revert a;refine xct rfl<|xsk<|xet<|xsq<|xbl<|xsr<|xr 1 rfl<|xy rfl (vx 9 1 1 rfl)<|xy rfl (ve encS_len HS.out 1 1 rfl rfl rfl rfl)<|xr 2 rfl<|xne<|xsr<|xr 1 rfl ?_;intro a HF;refine yc (ZA x1 _ (HT.out.below HS.out.bel) (HE.out.below HS.out.bel)) HF Tryz.func208 ?_;rintro _ w9 (⟨n8, hg8, rfl, hb⟩ | ⟨hg8, rfl, hb⟩);refine ⟨_, rfl, ?_⟩; replace HS := Bx.mk (HS.out.later hb);clear hb HF a;refine xr 5 rfl<|xne<|xsq<|xsr<|xr 2 rfl<|xne<|xcf rfl<|xsk<|xet<|xrl<|xr 2 rfl<|xy rfl (vx 261 1 1 rfl)<|xy rfl (ve YR HS.out 0 1 rfl rfl rfl rfl)<|xr 2 rfl ?_;intro a HF;refine Z6 rfl rfl rfl (HF.ev rfl) (HF.ev rfl) (by kernel_rfl) HS.out 2 rfl rfl rfl ?_; clear HS; intro w10 HS; replace HS := Bx.mk HS
 try dsimp only [List.set] at HS
 revert a;refine xni<|xeb<|xet<|xrl<|xy rfl (fun a HF=>Y2 (r := 2) rfl (HF.ev rfl) (HF.ev rfl) (by decide))<|xr 1 rfl<|xne ?_;intro a HF;refine Y6 4 ?_;revert a;refine xsr<|xr 1 rfl<|xne<|xsq ?_;intro a HF;replace HF := HF.know (k := 26) (c := true) rfl (by decide);revert a;refine xct rfl<|xsk<|xet<|xsq<|xbl<|xsr<|xr 1 rfl<|xy rfl (vx 9 2 1 rfl)<|xy rfl (ve encS_len HS.out 1 2 rfl rfl rfl rfl)<|xr 2 rfl<|xne<|xsr<|xr 1 rfl ?_;intro a HF;refine yc (ZA x2 _ (HT.out.below HS.out.bel) (HE.out.below HS.out.bel)) HF Tryz.func208 ?_;rintro _ w11 (⟨n9, hg9, rfl, hb⟩ | ⟨hg9, rfl, hb⟩);refine ⟨_, rfl, ?_⟩; replace HS := Bx.mk (HS.out.later hb);clear hb HF a;refine xr 5 rfl<|xne<|xsq<|xsr<|xr 2 rfl<|xne<|xcf rfl<|xsk<|xet<|xrl<|xr 2 rfl<|xy rfl (vx 261 2 1 rfl)<|xy rfl (ve YR HS.out 0 2 rfl rfl rfl rfl)<|xr 2 rfl ?_;intro a HF;refine Z6 rfl rfl rfl (HF.ev rfl) (HF.ev rfl) (by kernel_rfl) HS.out 2 rfl rfl rfl ?_; clear HS; intro w12 HS; replace HS := Bx.mk HS
 try dsimp only [List.set] at HS
 revert a;refine xni<|xeb<|xet<|xrl<|xy rfl (fun a HF=>Y2 (r := 3) rfl (HF.ev rfl) (HF.ev rfl) (by decide))<|xr 1 rfl<|xne ?_;intro a HF;refine Y6 3 ?_;revert a;refine xsr<|xr 1 rfl<|xne<|xsq ?_;intro a HF;replace HF := HF.know (k := 26) (c := true) rfl (by decide);revert a;refine xct rfl<|xsk<|xet<|xsq<|xbl<|xsr<|xr 1 rfl<|xy rfl (vx 9 3 1 rfl)<|xy rfl (ve encS_len HS.out 1 3 rfl rfl rfl rfl)<|xr 2 rfl<|xne<|xsr<|xr 1 rfl ?_;intro a HF;refine yc (ZA x3 _ (HT.out.below HS.out.bel) (HE.out.below HS.out.bel)) HF Tryz.func208 ?_;rintro _ w13 (⟨n10, hg10, rfl, hb⟩ | ⟨hg10, rfl, hb⟩);refine ⟨_, rfl, ?_⟩; replace HS := Bx.mk (HS.out.later hb);clear hb HF a;refine xr 5 rfl<|xne<|xsq<|xsr<|xr 2 rfl<|xne<|xcf rfl<|xsk<|xet<|xrl<|xr 2 rfl<|xy rfl (vx 261 3 1 rfl)<|xy rfl (ve YR HS.out 0 3 rfl rfl rfl rfl)<|xr 2 rfl ?_;intro a HF;refine Z6 rfl rfl rfl (HF.ev rfl) (HF.ev rfl) (by kernel_rfl) HS.out 2 rfl rfl rfl ?_; clear HS; intro w14 HS; replace HS := Bx.mk HS
 try dsimp only [List.set] at HS
 revert a;refine xni<|xeb<|xet<|xrl<|xy rfl (fun a HF=>Y2 (r := 4) rfl (HF.ev rfl) (HF.ev rfl) (by decide))<|xr 1 rfl<|xne ?_;intro a HF;refine Y6 2 ?_;revert a;refine xsr<|xr 1 rfl<|xne<|xsq ?_;intro a HF;replace HF := HF.know (k := 26) (c := true) rfl (by decide);revert a;refine xct rfl<|xsk<|xet<|xsq<|xbl<|xsr<|xr 1 rfl<|xy rfl (vx 9 4 1 rfl)<|xy rfl (ve encS_len HS.out 1 4 rfl rfl rfl rfl)<|xr 2 rfl<|xne<|xsr<|xr 1 rfl ?_;intro a HF;refine yc (ZA x4 _ (HT.out.below HS.out.bel) (HE.out.below HS.out.bel)) HF Tryz.func208 ?_;rintro _ w15 (⟨n11, hg11, rfl, hb⟩ | ⟨hg11, rfl, hb⟩);refine ⟨_, rfl, ?_⟩; replace HS := Bx.mk (HS.out.later hb);clear hb HF a;refine xr 5 rfl<|xne<|xsq<|xsr<|xr 2 rfl<|xne<|xcf rfl<|xsk<|xet<|xrl<|xr 2 rfl<|xy rfl (vx 261 4 1 rfl)<|xy rfl (ve YR HS.out 0 4 rfl rfl rfl rfl)<|xr 2 rfl ?_;intro a HF;refine Z6 rfl rfl rfl (HF.ev rfl) (HF.ev rfl) (by kernel_rfl) HS.out 2 rfl rfl rfl ?_; clear HS; intro w16 HS; replace HS := Bx.mk HS
 try dsimp only [List.set] at HS
 revert a;refine xni<|xeb<|xet<|xrl<|xy rfl (fun a HF=>Y2 (r := 5) rfl (HF.ev rfl) (HF.ev rfl) (by decide))<|xr 1 rfl<|xne ?_;intro a HF;refine Y6 1 ?_;revert a;refine xsr<|xr 1 rfl<|xne<|xsq ?_;intro a HF;replace HF := HF.know (k := 26) (c := false) rfl (by decide);revert a;refine xcf rfl<|xex<|xtx<|xtx<|xbh<|xet<|xsq<|xsr<|xy rfl (vw HS.out 2 5 rfl rfl) ?_;intro a HF;refine ycB (JC (⟨(n7 : Int), (n8 : Int), (n9 : Int), (n10 : Int), (n11 : Int)⟩ : PtrD) _ (HT.out.below HS.out.bel)) HF Tryz.func201 HS ?_; clear HF HS a; intro w17 a HS HF;revert a;refine xr 1 rfl<|xy rfl (fun a HF=>Xs rfl (HF.ev rfl) (HF.ev rfl))<|xne<|xcs 48 rfl (fun cc3=>?_) fun cc3=>?_
 refine xct rfl<|xsr<|xy rfl (vb z5 rfl) ?_;intro a HF;refine yst HF HS 3 ?_;clear HS;intro w18 HS
 try dsimp only [List.set] at HS
 revert a;refine xr 1 rfl<|xne<|xre<|xtr ?_;intro a HF;refine ZI HF Tryz.results263 (HF.resBox rfl (HS.out.box 3 rfl) (by kernel_rfl)) (HF.res rfl) ?_;refine .inr ⟨fun q hq hqs => ?_, rfl, HS.out.bel⟩;have hqh := Qj hq hqs (by simpa using cc1); have hqp := Yn hq hqh; rw [hqs] at hqp; have hqb := PtrD.ok_all hq hqh;rw [hws] at hqp; simp only [List.cons.injEq, and_true] at hqp; obtain ⟨k0, k1, k2, k3, k4⟩ := hqp;rw [k0] at hg7; have j0 := JY (n := q.fAt) (by omega) hg7;rw [k1] at hg8; have j1 := JY (n := q.fBirth) (by omega) hg8;rw [k2] at hg9; have j2 := JY (n := q.fSize) (by omega) hg9;rw [k3] at hg10; have j3 := JY (n := q.fSum) (by omega) hg10;rw [k4] at hg11; have j4 := JY (n := q.fLevel) (by omega) hg11;have hpq : (⟨(n7 : Int), (n8 : Int), (n9 : Int), (n10 : Int), (n11 : Int)⟩ : PtrD) = q := by rw [j0, j1, j2, j3, j4]
 rw [hpq, hqs] at cc3; simp at cc3;refine xcf rfl<|xsk<|xet<|xsr<|xy rfl (vw HS.out 2 5 rfl rfl) ?_;intro a HF;refine yst HF HS 3 ?_;clear HS;intro w19 HS
 try dsimp only [List.set] at HS
 revert a;refine xr 1 rfl<|xne<|xre ?_;intro a HF;refine ZI HF Tryz.results263 (HF.resBox rfl (HS.out.box 3 rfl) (by kernel_rfl)) (HF.res rfl) ?_;have hpt : ZN (⟨(n7 : Int), (n8 : Int), (n9 : Int), (n10 : Int), (n11 : Int)⟩ : PtrD) = s := ZJ (by simpa using cc3);have hpo : (⟨(n7 : Int), (n8 : Int), (n9 : Int), (n10 : Int), (n11 : Int)⟩ : PtrD).ok = true := by
     cases ho : (⟨(n7 : Int), (n8 : Int), (n9 : Int), (n10 : Int), (n11 : Int)⟩ : PtrD).ok with
     | true => rfl
     | false =>
       rw [ZaW ho] at hpt;rw [← hpt] at hws;exact absurd (congrArg List.length hws) (show ¬ (1 : Nat) = 5 by decide)
 exact .inl ⟨_, hpo, hpt, rfl, HS.out.bel⟩;refine ⟨_, rfl, ?_⟩; replace HS := Bx.mk (HS.out.later hb);clear hb HF a;refine xr 5 rfl<|xne<|xsq<|xsr<|xr 2 rfl<|xne<|xct rfl<|xsr<|xy rfl (vb z5 rfl) ?_;intro a HF;refine yst HF HS 3 ?_;clear HS;intro w20 HS
 try dsimp only [List.set] at HS
 revert a;refine xr 1 rfl<|xne<|xre<|xtr<|xbr<|xtr<|xtr<|xbr<|xtr ?_;intro a HF;refine ZI HF Tryz.results263 (HF.resBox rfl (HS.out.box 3 rfl) (by kernel_rfl)) (HF.res rfl) ?_;refine .inr ⟨fun q hq hqs => ?_, rfl, HS.out.bel⟩;have hqh := Qj hq hqs (by simpa using cc1); have hqp := Yn hq hqh; rw [hqs] at hqp; have hqb := PtrD.ok_all hq hqh;rw [hws] at hqp; simp only [List.cons.injEq, and_true] at hqp; obtain ⟨k0, k1, k2, k3, k4⟩ := hqp;rw [k4, Z0 (by omega)] at hg11; cases hg11;refine ⟨_, rfl, ?_⟩; replace HS := Bx.mk (HS.out.later hb);clear hb HF a;refine xr 5 rfl<|xne<|xsq<|xsr<|xr 2 rfl<|xne<|xct rfl<|xsr<|xy rfl (vb z5 rfl) ?_;intro a HF;refine yst HF HS 3 ?_;clear HS;intro w21 HS
 try dsimp only [List.set] at HS
 revert a;refine xr 1 rfl<|xne<|xre<|xtr<|xbr<|xtr<|xtr<|xbr<|xtr ?_;intro a HF;refine ZI HF Tryz.results263 (HF.resBox rfl (HS.out.box 3 rfl) (by kernel_rfl)) (HF.res rfl) ?_;refine .inr ⟨fun q hq hqs => ?_, rfl, HS.out.bel⟩;have hqh := Qj hq hqs (by simpa using cc1); have hqp := Yn hq hqh; rw [hqs] at hqp; have hqb := PtrD.ok_all hq hqh;rw [hws] at hqp; simp only [List.cons.injEq, and_true] at hqp; obtain ⟨k0, k1, k2, k3, k4⟩ := hqp;rw [k3, Z0 (by omega)] at hg10; cases hg10;refine ⟨_, rfl, ?_⟩; replace HS := Bx.mk (HS.out.later hb);clear hb HF a;refine xr 5 rfl<|xne<|xsq<|xsr<|xr 2 rfl<|xne<|xct rfl<|xsr<|xy rfl (vb z5 rfl) ?_;intro a HF;refine yst HF HS 3 ?_;clear HS;intro w22 HS
 try dsimp only [List.set] at HS
 revert a;refine xr 1 rfl<|xne<|xre<|xtr<|xbr<|xtr<|xtr<|xbr<|xtr ?_;intro a HF;refine ZI HF Tryz.results263 (HF.resBox rfl (HS.out.box 3 rfl) (by kernel_rfl)) (HF.res rfl) ?_;refine .inr ⟨fun q hq hqs => ?_, rfl, HS.out.bel⟩;have hqh := Qj hq hqs (by simpa using cc1); have hqp := Yn hq hqh; rw [hqs] at hqp; have hqb := PtrD.ok_all hq hqh;rw [hws] at hqp; simp only [List.cons.injEq, and_true] at hqp; obtain ⟨k0, k1, k2, k3, k4⟩ := hqp;rw [k2, Z0 (by omega)] at hg9; cases hg9;refine ⟨_, rfl, ?_⟩; replace HS := Bx.mk (HS.out.later hb);clear hb HF a;refine xr 5 rfl<|xne<|xsq<|xsr<|xr 2 rfl<|xne<|xct rfl<|xsr<|xy rfl (vb z5 rfl) ?_;intro a HF;refine yst HF HS 3 ?_;clear HS;intro w23 HS
 try dsimp only [List.set] at HS
 revert a;refine xr 1 rfl<|xne<|xre<|xtr<|xbr<|xtr<|xtr<|xbr<|xtr ?_;intro a HF;refine ZI HF Tryz.results263 (HF.resBox rfl (HS.out.box 3 rfl) (by kernel_rfl)) (HF.res rfl) ?_;refine .inr ⟨fun q hq hqs => ?_, rfl, HS.out.bel⟩;have hqh := Qj hq hqs (by simpa using cc1); have hqp := Yn hq hqh; rw [hqs] at hqp; have hqb := PtrD.ok_all hq hqh;rw [hws] at hqp; simp only [List.cons.injEq, and_true] at hqp; obtain ⟨k0, k1, k2, k3, k4⟩ := hqp;rw [k1, Z0 (by omega)] at hg8; cases hg8;refine ⟨_, rfl, ?_⟩; replace HS := Bx.mk (HS.out.later hb);clear hb HF a;refine xr 5 rfl<|xne<|xsq<|xsr<|xr 2 rfl<|xne<|xct rfl<|xsr<|xy rfl (vb z5 rfl) ?_;intro a HF;refine yst HF HS 3 ?_;clear HS;intro w24 HS
 try dsimp only [List.set] at HS
 revert a;refine xr 1 rfl<|xne<|xre<|xtr<|xbr<|xtr<|xtr<|xbr<|xtr ?_;intro a HF;refine ZI HF Tryz.results263 (HF.resBox rfl (HS.out.box 3 rfl) (by kernel_rfl)) (HF.res rfl) ?_;refine .inr ⟨fun q hq hqs => ?_, rfl, HS.out.bel⟩;have hqh := Qj hq hqs (by simpa using cc1); have hqp := Yn hq hqh; rw [hqs] at hqp; have hqb := PtrD.ok_all hq hqh;rw [hws] at hqp; simp only [List.cons.injEq, and_true] at hqp; obtain ⟨k0, k1, k2, k3, k4⟩ := hqp;rw [k0, Z0 (by omega)] at hg7; cases hg7
open Go.RowKit Go.Lib
def Zo8 : ByteArray := ⟨#[44]⟩
def Znh (l : List PtrD) : ByteArray := Q1 (l.map ZN) Zo8
theorem Za2 (c : UInt8) : ∀ (x : List UInt8) (r : List (List UInt8)), (∀ y ∈ x :: r, ∀ b ∈ y, b ≠ c) → splitL c (Go.Lib.join (x :: r) [c]) = x :: r
  | x, [], h => by
    rw [show Go.Lib.join [x] [c] = x by simp [Go.Lib.join, Go.Lib.joinTail]];exact QU c x (h x (List.mem_cons_self ..))
  | x, y :: r, h => by
    have e : Go.Lib.join (x :: y :: r) [c] = x ++ c :: Go.Lib.join (y :: r) [c] := by simp [Go.Lib.join, Go.Lib.joinTail]
    rw [e, QB c _ x (h x (List.mem_cons_self ..)), Za2 c y r fun z hz => h z (List.mem_cons_of_mem _ hz)]
theorem ZhC {l : List ByteArray} {c : UInt8} (hne : l ≠ []) (h : ∀ y ∈ l, ∀ b ∈ y.data.toList, b ≠ c) : Ze (Q1 l ⟨#[c]⟩) c = l := by
  match l, hne with
  | x :: r, _ =>
    unfold Ze Q1;show (splitL c (Go.Lib.join ((x :: r).map (·.data.toList)) [c])).map _ = _;rw [List.map_cons, Za2 c _ _ (fun y hy b hb => by
      rcases List.mem_cons.1 hy with rfl | hy
      · exact h x (List.mem_cons_self ..) b hb
      · obtain ⟨z, hz, rfl⟩ := List.mem_map.1 hy
        exact h z (List.mem_cons_of_mem _ hz) b hb), ← List.map_cons (f := fun y : ByteArray => y.data.toList)]
    exact ZaL (x :: r)
theorem Zni (c : UInt8) (hc : digitVal c = none) (n : Nat) : ∀ x ∈ (ZE n).data.toList, x ≠ c := by
  intro x hx e;subst e;obtain ⟨d, hd⟩ := QE n x (by rw [← Z8]; exact hx);rw [hc] at hd
  cases hd
theorem ZgA (c : UInt8) (hc : digitVal c = none) (n : Int) : ∀ x ∈ (Zs n).data.toList, x ≠ c := by
  unfold Zs
  split
  · exact Zni c hc _
  · intro x hx; simp at hx
theorem Zl7 (p : PtrD) : ∀ x ∈ (ZN p).data.toList, x ≠ 44 := by
  cases h : p.ok with
  | false => rw [ZaW h]; intro x hx; simp at hx
  | true =>
    cases hh : p.hole with
    | true => rw [Qa h hh]; intro x hx; rw [show x = 45 from by simpa using hx]; decide
    | false =>
      rw [UT h hh];intro x hx;have hn := fun n => ZgA 44 (by decide) n x
      simp only [ZH, List.mem_append, show ZcN.data.toList = [46] from rfl, List.mem_singleton] at hx;rcases hx with (((((((hx | hx) | hx) | hx) | hx) | hx) | hx) | hx) | hx
      all_goals first | exact hn _ hx | (rw [hx]; decide)
theorem V9 {l : List PtrD} (hne : l ≠ []) : Ze (Znh l) 44 = l.map ZN := by
  refine ZhC (by simpa using hne) fun y hy => ?_;obtain ⟨p, _, rfl⟩ := List.mem_map.1 hy;exact Zl7 p
structure IsFan (s : ByteArray) (l : List PtrD) : Prop where
  n : l.length = 4
  ok : ∀ p ∈ l, p.ok = true
  some : l.all (fun p => p.hole) = false
  is : Znh l = s
theorem ZjV {l m : List PtrD} (hl : ∀ p ∈ l, p.ok = true) (hm : ∀ p ∈ m, p.ok = true) (h : l.map ZN = m.map ZN) : l = m := by
  induction l generalizing m with
  | nil => cases m with
    | nil => rfl
    | cons _ _ => simp at h
  | cons p l ih => cases m with
    | nil => simp at h
    | cons q m =>
      simp only [List.map_cons, List.cons.injEq] at h;rw [Za1 (hl p (List.mem_cons_self ..)) (hm q (List.mem_cons_self ..)) h.1, ih (fun x hx => hl x (List.mem_cons_of_mem _ hx)) (fun x hx => hm x (List.mem_cons_of_mem _ hx)) h.2]
theorem IsFan.one {s : ByteArray} {l m : List PtrD} (h : IsFan s l) (k : IsFan s m) : l = m := by
  refine ZjV h.ok k.ok ?_;rw [← V9 (l := l) (fun e => by have := h.n; rw [e] at this; cases this), ← V9 (l := m) (fun e => by have := k.n; rw [e] at this; cases this), h.is, k.is]
theorem IsFan.pieces {s : ByteArray} {l : List PtrD} (h : IsFan s l) : Ze s 44 = l.map ZN := by
  rw [← h.is];exact V9 fun e => by have := h.n; rw [e] at this; cases this
open Classical in
noncomputable def Zl8 (s : ByteArray) : Option (List PtrD) := if h : ∃ l, IsFan s l then some h.choose else none
theorem ZhD {s : ByteArray} {l : List PtrD} (h : IsFan s l) : Zl8 s = some l := by
  have he : ∃ l, IsFan s l := ⟨l, h⟩;unfold Zl8;rw [dif_pos he, he.choose_spec.one h]
theorem Znj {s : ByteArray} (h : ∀ l, ¬ IsFan s l) : Zl8 s = none := by
  unfold Zl8;rw [dif_neg fun ⟨l, hl⟩ => h l hl]
open Go.RowKit
def XW (p : PtrD) (s : ByteArray) : Bool := p.ok && (!p.hole && ((p.fSize == (s.size : Int)) && (p.fSum == ZjP s)))
def UZ (st : Za) (p : PtrD) : ByteArray := st.fRows.getD p.fAt.toNat ByteArray.empty
def Zm (st : Za) (p : PtrD) : ByteArray := bif p.hole then ByteArray.empty else bif XW p (UZ st p) then UZ st p else ByteArray.empty
def Xk (st : Za) (p : PtrD) : Bool := bif p.hole then true else XW p (UZ st p)
theorem Jm {st : Za} {p : PtrD} (h : p.hole = true) : Zm st p = ByteArray.empty := by unfold Zm; rw [h]; rfl
theorem Up {st : Za} {p : PtrD} (h : p.hole = true) : Xk st p = true := by unfold Xk; rw [h]; rfl
theorem VH {st : Za} {p : PtrD} (h : p.hole = false) (hf : XW p (UZ st p) = true) : Zm st p = UZ st p := by unfold Zm; rw [h, hf]; rfl
theorem ZdY {st : Za} {p : PtrD} (h : p.hole = false) (hf : XW p (UZ st p) = false) : Zm st p = ByteArray.empty := by unfold Zm; rw [h, hf]; rfl
theorem U0 {st : Za} {p : PtrD} (h : p.hole = false) : Xk st p = XW p (UZ st p) := by unfold Xk; rw [h]; rfl
def Jn : List PtrD := [PtrD.zero, PtrD.zero, PtrD.zero, PtrD.zero]
noncomputable def kids (st : Za) (p : PtrD) (level : Int) : Option (List PtrD) :=
  bif p.hole then some Jn else bif Xk st p && (p.fLevel == level) then (Zl8 (Zm st p)).bind fun l => bif l.any (fun k => decide (p.fBirth < k.fBirth)) then none else some l else none
noncomputable def kidsS (st : Za) (p : PtrD) (level : Int) : Option (List PtrD) :=
  bif p.hole then some Jn else bif p.ok && ((p.fLevel == level) && decide (p.fBirth ≤ st.fTxg)) then kids st p level else none
theorem JZ {st : Za} {p : PtrD} {n : Int} (h : p.hole = true) : kids st p n = some Jn := by unfold kids; rw [h]; rfl
theorem ZdZ {st : Za} {p : PtrD} {n : Int} (h : p.hole = true) : kidsS st p n = some Jn := by unfold kidsS; rw [h]; rfl
theorem U1 {st : Za} {p : PtrD} {n : Int} (h : p.hole = false) (hr : Xk st p = false) : kids st p n = none := by unfold kids; rw [h, hr]; rfl
theorem Zaa {st : Za} {p : PtrD} {n : Int} (h : p.hole = false) (hr : (p.fLevel == n) = false) : kids st p n = none := by unfold kids; rw [h, hr, Bool.and_false]; rfl
theorem Zab {st : Za} {p : PtrD} {n : Int} (h : p.hole = false) (hf : ∀ l, ¬ IsFan (Zm st p) l) : kids st p n = none := by
  unfold kids;rw [h, Znj hf]
  cases (Xk st p && (p.fLevel == n)) <;> rfl
theorem ZbV {st : Za} {p : PtrD} {n : Int} {l : List PtrD} (h : p.hole = false) (hf : IsFan (Zm st p) l) (hb : l.any (fun k => decide (p.fBirth < k.fBirth)) = true) : kids st p n = none := by
  unfold kids;rw [h, ZhD hf]
  cases (Xk st p && (p.fLevel == n))
  · rfl
  · simp only [cond_true, cond_false, Option.bind_some, hb]
theorem Zd0 {st : Za} {p : PtrD} {n : Int} {l : List PtrD} (h : p.hole = false) (hr : Xk st p = true) (hn : (p.fLevel == n) = true) (hf : IsFan (Zm st p) l) (hb : l.any (fun k => decide (p.fBirth < k.fBirth)) = false) : kids st p n = some l := by
  unfold kids;rw [h, ZhD hf, hr, hn];simp only [cond_true, cond_false, Option.bind_some, hb, Bool.and_self]
theorem J0 {st : Za} {p : PtrD} {n : Int} {l : List PtrD} (h : kids st p n = some l) : l.length = 4 ∧ (∀ k ∈ l, k.ok = true) ∧ (p.hole = true ∧ l = Jn ∨ p.hole = false ∧ p.fLevel = n ∧ Xk st p = true ∧ IsFan (Zm st p) l ∧ ∀ k ∈ l, k.fBirth ≤ p.fBirth) := by
  cases hh : p.hole with
  | true =>
    rw [JZ hh] at h;obtain rfl := Option.some.inj h;exact ⟨rfl, fun k hk => by simp only [Jn, List.mem_cons, List.not_mem_nil, or_false, or_self] at hk; rw [hk]; rfl, .inl ⟨rfl, rfl⟩⟩
  | false =>
    cases hr : Xk st p with
    | false => rw [U1 hh hr] at h; cases h
    | true =>
      cases hn : (p.fLevel == n) with
      | false => rw [Zaa hh hn] at h; cases h
      | true =>
        by_cases hf : ∃ m, IsFan (Zm st p) m
        · obtain ⟨m, hm⟩ := hf
          cases hb : m.any (fun k => decide (p.fBirth < k.fBirth)) with
          | true => rw [ZbV hh hm hb] at h; cases h
          | false =>
            rw [Zd0 hh hr hn hm hb] at h;obtain rfl := Option.some.inj h;refine ⟨hm.n, hm.ok, .inr ⟨rfl, eq_of_beq hn, rfl, hm, fun k hk => ?_⟩⟩;have := (List.any_eq_false.1 hb) k hk;have := of_decide_eq_false (by simpa using this : decide (p.fBirth < k.fBirth) = false)
            omega
        · rw [Zab hh fun l hl => hf ⟨l, hl⟩] at h; cases h
theorem J1 {st : Za} {p : PtrD} {n : Int} (hp : p.ok = true) (hb : p.fBirth ≤ st.fTxg) : kidsS st p n = kids st p n := by
  unfold kidsS;rw [hp, decide_eq_true hb, Bool.and_true, Bool.true_and]
  cases hh : p.hole with
  | true => rw [JZ hh]; rfl
  | false =>
    cases hn : (p.fLevel == n) with
    | false => rw [Zaa hh hn]; rfl
    | true => rfl
theorem U2 {st : Za} {p : PtrD} {n : Int} (h : p.hole = false) (hn : (p.ok && ((p.fLevel == n) && decide (p.fBirth ≤ st.fTxg))) = false) : kidsS st p n = none := by unfold kidsS; rw [h, hn]; rfl
theorem ZfK {st : Za} {p : PtrD} {n : Int} {l : List PtrD} (h : kidsS st p n = some l) : kids st p n = some l ∧ (p.hole = false → p.ok = true ∧ p.fBirth ≤ st.fTxg) := by
  cases hh : p.hole with
  | true => rw [ZdZ hh] at h; rw [JZ hh]; exact ⟨h, fun e => by cases e⟩
  | false =>
    cases hc : (p.ok && ((p.fLevel == n) && decide (p.fBirth ≤ st.fTxg))) with
    | false => rw [U2 hh hc] at h; cases h
    | true =>
      unfold kidsS at h;rw [hh, hc] at h;simp only [Bool.and_eq_true, decide_eq_true_eq] at hc;exact ⟨h, fun _ => ⟨hc.1, hc.2.2⟩⟩
noncomputable def Yw (f : PtrD → Option (List PtrD)) : List PtrD → Option (List PtrD)
  | [] => some []
  | p :: r => (f p).bind fun k => (Yw f r).map (k ++ ·)
theorem Za3 {f : PtrD → Option (List PtrD)} {p : PtrD} {r : List PtrD} (h : f p = none) : Yw f (p :: r) = none := by show Option.bind _ _ = _; rw [h]; rfl
theorem ZbW {f : PtrD → Option (List PtrD)} {p : PtrD} {r k : List PtrD} (h : f p = some k) : Yw f (p :: r) = (Yw f r).map (k ++ ·) := by show Option.bind _ _ = _; rw [h]; rfl
theorem Znk {o : Option (List PtrD)} (a b : List PtrD) : (o.map (b ++ ·)).map (a ++ ·) = o.map ((a ++ b) ++ ·) := by cases o <;> simp
theorem Zcu {f g : PtrD → Option (List PtrD)} : ∀ {l : List PtrD}, (∀ p ∈ l, f p = g p) → Yw f l = Yw g l
  | [], _ => rfl
  | p :: r, h => by
    show Option.bind _ _ = Option.bind _ _;rw [h p (List.mem_cons_self ..), Zcu fun q hq => h q (List.mem_cons_of_mem _ hq)]
theorem VI {f : PtrD → Option (List PtrD)} : ∀ {l m : List PtrD}, Yw f l = some m → (∀ p ∈ l, ∃ k, f p = some k) ∧ (∀ q ∈ m, ∃ p ∈ l, ∃ k, f p = some k ∧ q ∈ k) ∧ (∀ p ∈ l, ∀ k, f p = some k → ∀ q ∈ k, q ∈ m)
  | [], m, h => by
    obtain rfl : [] = m := Option.some.inj h;exact ⟨fun p hp => (nomatch hp), fun p hp => (nomatch hp), fun p hp => (nomatch hp)⟩
  | p :: r, m, h => by
    cases hk : f p with
    | none => rw [Za3 hk] at h; cases h
    | some k =>
      rw [ZbW hk] at h
      cases hn : Yw f r with
      | none => rw [hn] at h; cases h
      | some n =>
        rw [hn] at h;obtain rfl : k ++ n = m := Option.some.inj h;obtain ⟨i1, i2, i3⟩ := VI hn;refine ⟨fun q hq => ?_, fun q hq => ?_, fun q hq k2 hk2 x hx => ?_⟩
        · rcases List.mem_cons.1 hq with rfl | hq
          · exact ⟨k, hk⟩
          · exact i1 q hq
        · rcases List.mem_append.1 hq with hq | hq
          · exact ⟨p, List.mem_cons_self .., k, hk, hq⟩
          · obtain ⟨y, hy, z, hz, hq⟩ := i2 q hq
            exact ⟨y, List.mem_cons_of_mem _ hy, z, hz, hq⟩
        · rcases List.mem_cons.1 hq with rfl | hq
          · rw [hk] at hk2
            obtain rfl := Option.some.inj hk2;exact List.mem_append_left _ hx
          · exact List.mem_append_right _ (i3 q hq k2 hk2 x hx)
theorem ZfL {f : PtrD → Option (List PtrD)} (hf : ∀ p k, f p = some k → k.length = 4) : ∀ {l m : List PtrD}, Yw f l = some m → m.length = 4 * l.length
  | [], m, h => by obtain rfl : [] = m := Option.some.inj h; rfl
  | p :: r, m, h => by
    cases hk : f p with
    | none => rw [Za3 hk] at h; cases h
    | some k =>
      rw [ZbW hk] at h
      cases hn : Yw f r with
      | none => rw [hn] at h; cases h
      | some n =>
        rw [hn] at h;obtain rfl : k ++ n = m := Option.some.inj h;have := ZfL hf hn;rw [List.length_append, hf p k hk, List.length_cons]; omega
noncomputable def downL (f : PtrD → Int → Option (List PtrD)) : Nat → List PtrD → Option (List PtrD)
  | 0, l => some l
  | n + 1, l => (Yw (fun p => f p ((n + 1 : Nat) : Int)) l).bind (downL f n)
theorem QV {f : PtrD → Int → Option (List PtrD)} {n : Nat} {l : List PtrD} (h : Yw (fun p => f p ((n + 1 : Nat) : Int)) l = none) : downL f (n + 1) l = none := by show Option.bind _ _ = _; rw [h]; rfl
theorem QG {f : PtrD → Int → Option (List PtrD)} {n : Nat} {l m : List PtrD} (h : Yw (fun p => f p ((n + 1 : Nat) : Int)) l = some m) : downL f (n + 1) l = downL f n m := by show Option.bind _ _ = _; rw [h]; rfl
theorem VJ {f : PtrD → Int → Option (List PtrD)} (hf : ∀ p n k, f p n = some k → k.length = 4) : ∀ {n : Nat} {l m : List PtrD}, downL f n l = some m → m.length = 4 ^ n * l.length
  | 0, l, m, h => by obtain rfl : l = m := Option.some.inj h; omega
  | n + 1, l, m, h => by
    cases hn : Yw (fun p => f p ((n + 1 : Nat) : Int)) l with
    | none => rw [QV hn] at h; cases h
    | some x =>
      rw [QG hn] at h;rw [VJ hf h, ZfL (fun p k => hf p _ k) hn, Nat.pow_succ, Nat.mul_assoc]
def depthN (many : Int) : Nat := if many ≤ 1 then 0 else if many ≤ 4 then 1 else 2
theorem QH (many : Int) : depthN many ≤ 2 := by unfold depthN; split <;> (try split) <;> omega
theorem Zd1 {many : Int} (h : many ≤ 16) : many ≤ ((4 ^ depthN many : Nat) : Int) := by
  unfold depthN
  split
  · simp; omega
  · split
    · simp; omega
    · simp; omega
def JD (st : Za) (many : Int) (i : Nat) (p : PtrD) : Bool := bif p.hole then p.fLevel == 0 else Xk st p && ((p.fLevel == 0) && decide ((i : Int) < many))
def YI (st : Za) (many : Int) : Nat → List PtrD → Bool
  | _, [] => true
  | i, p :: r => JD st many i p && YI st many (i + 1) r
def topB (st : Za) (t : Zo) : Bool := inB t.fMany 0 16 && ((t.fDepth == (depthN t.fMany : Int)) && (t.fRoot.ok && decide (t.fRoot.fBirth ≤ st.fTxg)))
noncomputable def leavesF (st : Za) (t : Zo) : Option (List PtrD) :=
  bif topB st t then (downL (kids st) (depthN t.fMany) [t.fRoot]).bind fun l => bif YI st t.fMany 0 l then some (l.take t.fMany.toNat) else none else none
noncomputable def Qk (st : Za) (t : Zo) : Bool := (leavesF st t).isSome
theorem XC {st : Za} {t : Zo} (h : topB st t = false) : leavesF st t = none := by unfold leavesF; rw [h]; rfl
theorem Uq {st : Za} {t : Zo} (h : downL (kids st) (depthN t.fMany) [t.fRoot] = none) : leavesF st t = none := by
  unfold leavesF
  cases topB st t
  · rfl
  · rw [h]; rfl
theorem QW {st : Za} {t : Zo} {l : List PtrD} (h : downL (kids st) (depthN t.fMany) [t.fRoot] = some l) (hb : YI st t.fMany 0 l = false) : leavesF st t = none := by
  unfold leavesF
  cases topB st t
  · rfl
  · rw [h]
    simp only [cond_true, cond_false, Option.bind_some, hb]
theorem U3 {st : Za} {t : Zo} {l : List PtrD} (h0 : topB st t = true) (h : downL (kids st) (depthN t.fMany) [t.fRoot] = some l) (hb : YI st t.fMany 0 l = true) : leavesF st t = some (l.take t.fMany.toNat) := by
  unfold leavesF;rw [h0, h];simp only [cond_true, cond_false, Option.bind_some, hb]
theorem U4 {st : Za} {p : PtrD} {n : Int} {k : List PtrD} (h : kids st p n = some k) : k.length = 4 := (J0 h).1
theorem QJ {st : Za} {t : Zo} {r : List PtrD} (h : leavesF st t = some r) : ∃ l, topB st t = true ∧ downL (kids st) (depthN t.fMany) [t.fRoot] = some l ∧ YI st t.fMany 0 l = true ∧ r = l.take t.fMany.toNat ∧ l.length = 4 ^ depthN t.fMany ∧ r.length = t.fMany.toNat := by
  cases h0 : topB st t with
  | false => rw [XC h0] at h; cases h
  | true =>
    cases h1 : downL (kids st) (depthN t.fMany) [t.fRoot] with
    | none => rw [Uq h1] at h; cases h
    | some l =>
      cases h2 : YI st t.fMany 0 l with
      | false => rw [QW h1 h2] at h; cases h
      | true =>
        rw [U3 h0 h1 h2] at h;obtain rfl := Option.some.inj h;have hl : l.length = 4 ^ depthN t.fMany := by rw [VJ (fun p n k => U4) h1]; simp
        refine ⟨l, rfl, rfl, h2, rfl, hl, ?_⟩;unfold topB at h0;rw [Bool.and_eq_true] at h0;have hi := Zu h0.1;have := Zd1 hi.2;rw [List.length_take, hl]
        omega
theorem Zac {st : Za} : ∀ {n : Nat} {l : List PtrD}, (∀ p ∈ l, p.ok = true ∧ p.fBirth ≤ st.fTxg) → 0 ≤ st.fTxg → downL (kidsS st) n l = downL (kids st) n l ∧ ∀ m, downL (kids st) n l = some m → ∀ p ∈ m, p.ok = true ∧ p.fBirth ≤ st.fTxg
  | 0, l, h, _ => ⟨rfl, fun m hm p hp => by obtain rfl : l = m := Option.some.inj hm; exact h p hp⟩
  | n + 1, l, h, h0 => by
    have e : Yw (fun p => kidsS st p ((n + 1 : Nat) : Int)) l = Yw (fun p => kids st p ((n + 1 : Nat) : Int)) l := Zcu fun p hp => J1 (h p hp).1 (h p hp).2
    cases hn : Yw (fun p => kids st p ((n + 1 : Nat) : Int)) l with
    | none => rw [QV (e.trans hn), QV hn]; exact ⟨rfl, fun m hm => by cases hm⟩
    | some x =>
      rw [QG (e.trans hn), QG hn];refine Zac (fun q hq => ?_) h0;obtain ⟨p, hp, k, hk, hq⟩ := (VI hn).2.1 q hq;obtain ⟨_, ok, hc⟩ := J0 hk;refine ⟨ok q hq, ?_⟩;rcases hc with ⟨_, rfl⟩ | ⟨_, _, _, _, hb⟩
      · simp only [Jn, List.mem_cons, List.not_mem_nil, or_false, or_self] at hq
        rw [hq]; exact h0
      · have := hb q hq; have := (h p hp).2; omega
def VX (st : Za) (many : Int) (i : Nat) (p : PtrD) : Bool := bif p.hole then true else Xk st p && ((p.fLevel == 0) && (decide (p.fBirth ≤ st.fTxg) && decide ((i : Int) < many)))
def XN (st : Za) (many : Int) : Nat → List PtrD → Bool
  | _, [] => true
  | i, p :: r => VX st many i p && XN st many (i + 1) r
theorem Zd2 {p : PtrD} (h : p.hole = true) : p.fLevel = 0 := by rw [VG h]; rfl
theorem Zi4 {p : PtrD} (h : p.hole = true) : p.fBirth = 0 := by rw [VG h]; rfl
theorem Zl9 {st : Za} {many : Int} {i : Nat} {p : PtrD} (h : p.fBirth ≤ st.fTxg) : VX st many i p = JD st many i p := by
  unfold VX JD
  cases hh : p.hole with
  | true => show true = (p.fLevel == 0); rw [Zd2 hh]; rfl
  | false => rw [decide_eq_true h, Bool.true_and]; rfl
theorem Zd3 {st : Za} {many : Int} : ∀ {i : Nat} {l : List PtrD}, (∀ p ∈ l, p.fBirth ≤ st.fTxg) → XN st many i l = YI st many i l
  | _, [], _ => rfl
  | i, p :: r, h => by
    show (_ && _) = (_ && _);rw [Zl9 (h p (List.mem_cons_self ..)), Zd3 fun q hq => h q (List.mem_cons_of_mem _ hq)]
def Zad (t : Zo) : Bool := inB t.fMany 0 16 && ((t.fDepth == (depthN t.fMany : Int)) && t.fRoot.ok)
noncomputable def okS (st : Za) (t : Zo) : Bool := Zad t && match downL (kidsS st) (depthN t.fMany) [t.fRoot] with | none => false | some l => XN st t.fMany 0 l
theorem Zc8 {st : Za} {t : Zo} (h : Zad t = false) : okS st t = false := by unfold okS; rw [h]; rfl
theorem Zd4 {st : Za} {t : Zo} (h : downL (kidsS st) (depthN t.fMany) [t.fRoot] = none) : okS st t = false := by unfold okS; rw [h, Bool.and_false]
theorem Zae {st : Za} {t : Zo} {l : List PtrD} (h0 : Zad t = true) (h : downL (kidsS st) (depthN t.fMany) [t.fRoot] = some l) : okS st t = XN st t.fMany 0 l := by unfold okS; rw [h0, h]; rfl
theorem ZgB {st : Za} {t : Zo} (h0 : 0 ≤ st.fTxg) : okS st t = Qk st t := by
  unfold Qk
  cases ht : Zad t with
  | false =>
    rw [Zc8 ht, XC (by unfold topB; unfold Zad at ht; rw [← Bool.and_assoc, ← Bool.and_assoc]; rw [← Bool.and_assoc] at ht; rw [ht]; rfl)]; rfl
  | true =>
    have hok : t.fRoot.ok = true := by unfold Zad at ht; simp only [Bool.and_eq_true] at ht; exact ht.2.2
    by_cases hb : t.fRoot.fBirth ≤ st.fTxg
    · have htop : topB st t = true := by unfold topB; unfold Zad at ht; rw [decide_eq_true hb, Bool.and_true]; exact ht
      obtain ⟨e, hy⟩ := Zac (st := st) (n := depthN t.fMany) (l := [t.fRoot]) (fun p hp => by rw [List.mem_singleton.1 hp]; exact ⟨hok, hb⟩) h0
      cases hd : downL (kids st) (depthN t.fMany) [t.fRoot] with
      | none => rw [Zd4 (e.trans hd), Uq hd]; rfl
      | some l =>
        rw [Zae ht (e.trans hd), Zd3 fun p hp => (hy l hd p hp).2]
        cases hl : YI st t.fMany 0 l with
        | true => rw [U3 htop hd hl]; rfl
        | false => rw [QW hd hl]; rfl
    · have htop : topB st t = false := by unfold topB; rw [decide_eq_false hb]; simp
      rw [XC htop];have hh : t.fRoot.hole = false := by
        cases hh : t.fRoot.hole with
        | false => rfl
        | true => have := Zi4 hh; omega
      cases hd : depthN t.fMany with
      | zero =>
        rw [Zae (l := [t.fRoot]) ht (by rw [hd]; rfl)];show (VX st t.fMany 0 t.fRoot && true) = false;unfold VX;rw [hh, decide_eq_false hb]; simp
      | succ n =>
        rw [Zd4 (by rw [hd]; exact QV (Za3 (U2 hh (by rw [decide_eq_false hb]; simp))))]; rfl
noncomputable def allL (st : Za) : Nat → PtrD → List PtrD
  | 0, p => bif p.hole then [] else [p]
  | n + 1, p => bif p.hole then [] else p :: ((kids st p ((n + 1 : Nat) : Int)).getD []).flatMap (allL st n)
theorem ZbX {st : Za} {p : PtrD} (h : p.hole = true) : ∀ n, allL st n p = []
  | 0 => by unfold allL; rw [h]; rfl
  | n + 1 => by unfold allL; rw [h]; rfl
def Wf (st : Za) : Nat → PtrD → Prop
  | 0, p => p.ok = true ∧ p.fBirth ≤ st.fTxg ∧ p.fLevel = 0 ∧ Xk st p = true
  | n + 1, p => p.ok = true ∧ p.fBirth ≤ st.fTxg ∧ ∃ l, kids st p ((n + 1 : Nat) : Int) = some l ∧ ∀ k ∈ l, Wf st n k
theorem Wf.ok {st : Za} : ∀ {n : Nat} {p : PtrD}, Wf st n p → p.ok = true ∧ p.fBirth ≤ st.fTxg
  | 0, _, h => ⟨h.1, h.2.1⟩
  | _ + 1, _, h => ⟨h.1, h.2.1⟩
theorem Wf.level {st : Za} : ∀ {n : Nat} {p : PtrD}, Wf st n p → p.hole = false → p.fLevel = (n : Int)
  | 0, _, h, _ => h.2.2.1
  | n + 1, p, ⟨_, _, l, hk, _⟩, hh => by
    rcases (J0 hk).2.2 with ⟨e, _⟩ | ⟨_, e, _⟩
    · rw [hh] at e; cases e
    · exact e
theorem Wf.zero {st : Za} (h0 : 0 ≤ st.fTxg) : ∀ n, Wf st n PtrD.zero
  | 0 => ⟨rfl, h0, rfl, rfl⟩
  | n + 1 => ⟨rfl, h0, Jn, JZ rfl, fun k hk => by
    simp only [Jn, List.mem_cons, List.not_mem_nil, or_false, or_self] at hk;rw [hk]; exact Wf.zero h0 n⟩
theorem Zcv {st : Za} {many : Int} : ∀ {i : Nat} {l : List PtrD}, YI st many i l = true → ∀ p ∈ l, p.fLevel = 0 ∧ Xk st p = true
  | _, [], _, p, hp => by cases hp
  | i, q :: r, h, p, hp => by
    have h : (JD st many i q && YI st many (i + 1) r) = true := h;rw [Bool.and_eq_true] at h;rcases List.mem_cons.1 hp with rfl | hp
    · have h1 := h.1
      unfold JD at h1
      cases hh : p.hole with
      | true => exact ⟨Zd2 hh, Up hh⟩
      | false =>
        rw [hh] at h1;have h1 : (Xk st p && ((p.fLevel == 0) && decide ((i : Int) < many))) = true := h1;simp only [Bool.and_eq_true, beq_iff_eq] at h1;exact ⟨h1.2.1, h1.1⟩
    · exact Zcv h.2 p hp
open Go.RowKit Go.Lib
theorem ZgC : digitVal 58 = none := by decide
theorem ZjW {s : ByteArray} {n k : Nat} (h : l1S s n k) (h0 : k ≠ 0) (hc : s.data.toList[k]? = some 58) : k < s.size ∧ XV (s.extract 0 k) = some n := by
  have hz := Zf s;have hk : k < s.data.toList.length := (List.getElem?_eq_some_iff.1 hc).1;refine ⟨by omega, ?_⟩;rcases h with ⟨h1, h2, h3, _, h5⟩ | ⟨rfl, rfl, _, b, d, h4, h6⟩
  · have hsz : (s.extract 0 k).size = k := by rw [ByteArray.size_extract]; omega
    have hl : (s.extract 0 k).data.toList = s.data.toList.take k := by rw [ZV]; simp
    refine ZjR (k := k) (.inl ⟨h1, by omega, by rw [hl, List.take_take, Nat.min_self]; exact h3, .inl hsz.symm, fun hx => h5 ⟨hx.1, ?_⟩⟩) h0 hsz.symm;rw [hl] at hx
    match hx2 : s.data.toList, hk with
    | a :: r, _ =>
      rw [hx2] at hx
      match k, h0 with
      | k + 1, _ => exact hx.2
  · rw [hc] at h4
    obtain rfl := Option.some.inj h4;rw [ZgC] at h6; cases h6
theorem ZgD {l : List UInt8} {b : UInt8} (hb : b ∈ l) (hd : digitVal b = none) : ∀ acc, decFrom acc l = none := by
  induction l with
  | nil => cases hb
  | cons c r ih =>
    intro acc;unfold decFrom;rcases List.mem_cons.1 hb with rfl | hb
    · rw [hd]
    · cases digitVal c with
      | none => rfl
      | some d => exact ih hb _
theorem Znl {s : ByteArray} {n k m : Nat} {t : List UInt8} (h : l1S s n k) (hm : m ≤ 999999999) (hs : s.data.toList = (ZE m).data.toList ++ 58 :: t) : k = (ZE m).size ∧ n = m ∧ s.data.toList[k]? = some 58 := by
  have hz := Zf s;have hd9 := JP hm;have hdp := Zdz m;have hdz := Zf (ZE m);have hall := QE m;rw [← Z8] at hall;have hlen : s.data.toList.length = (ZE m).data.toList.length + (t.length + 1) := by rw [hs, List.length_append, List.length_cons]
  have hcol : s.data.toList[(ZE m).size]? = some 58 := by rw [hs, hdz, List.getElem?_append_right (Nat.le_refl _), Nat.sub_self]; rfl
  have hin : ∀ i, i < (ZE m).size → ∃ b d, s.data.toList[i]? = some b ∧ digitVal b = some d := fun i hi => by
    have hi2 : i < (ZE m).data.toList.length := by omega
    obtain ⟨d, hd⟩ := hall _ (List.getElem_mem hi2);exact ⟨_, d, by rw [hs, List.getElem?_append_left hi2, List.getElem?_eq_getElem hi2], hd⟩
  have hk : k = (ZE m).size := by
    rcases h with ⟨h1, h2, h3, h4, _⟩ | ⟨rfl, rfl, h3, b, d, h4, h6⟩
    · rcases Nat.lt_trichotomy k (ZE m).size with hlt | he | hgt
      · obtain ⟨b, d, hb, hd⟩ := hin k hlt
        rcases h4 with h4 | h4 | ⟨c, h4, h6⟩
        · omega
        · omega
        · rw [hb] at h4
          obtain rfl := Option.some.inj h4;rw [hd] at h6; cases h6
      · exact he
      · have hmem : (58 : UInt8) ∈ s.data.toList.take k := by
          refine List.mem_of_getElem? (i := (ZE m).size) ?_;rw [List.getElem?_take, if_pos hgt]; exact hcol
        rw [ZgD hmem ZgC] at h3; cases h3
    · rcases Nat.lt_or_ge m 10 with hlt | hge
      · have h1 : (ZE m).size = 1 := by rw [hdz, Z8, decDigits_one hlt]; rfl
        rw [h1] at hcol;rw [hcol] at h4;obtain rfl := Option.some.inj h4;rw [ZgC] at h6; cases h6
      · obtain ⟨e, he, h1, h9⟩ := Zcq m hge
        rw [← Z8] at he;have : s.data.toList.head? = (ZE m).data.toList.head? := by
          rw [hs]
          match hq : (ZE m).data.toList, hdp, hdz with
          | a :: r, _, _ => rfl
          | [], hp, hq2 => have hz0 : ([] : List UInt8).length = 0 := rfl; omega
        rw [this, he] at h3;have hv := Option.some.inj h3;have : (UInt8.ofNat (48 + e)).toNat = 48 + e := by rw [UInt8.toNat_ofNat']; omega
        rw [hv] at this;have : (48 : UInt8).toNat = 48 := rfl
        omega
  refine ⟨hk, ?_, by rw [hk]; exact hcol⟩;have hnum := ZjW h (by omega) (by rw [hk]; exact hcol);have he : s.extract 0 k = ZE m := Ys (by rw [ZV, hs, hk, hdz]; simp);rw [he, UR hm] at hnum;exact (Option.some.inj hnum.2).symm
theorem XO {s : ByteArray} (i : Nat) : (s.extract i s.size).data.toList = s.data.toList.drop i := by
  rw [ZV, List.take_of_length_le (by rw [List.length_drop, ← Zf]; exact Nat.le_refl _)]
theorem Zma {s : ByteArray} {xs : List ByteArray} {p k n : Nat} (h : Jv s xs (s.extract p s.size)) (hl : l1S (s.extract p s.size) n k) (h0 : k ≠ 0) (hk : p + k < s.size) (hc : s.get! (p + k) = 58) (hn : n ≤ s.size - (p + k + 1)) : Jv s (xs ++ [s.extract (p + k + 1) (p + k + 1 + n)]) (s.extract (p + k + 1 + n) s.size) := by
  have hz := Zf s;have hcol : (s.extract p s.size).data.toList[k]? = some 58 := by rw [XO, List.getElem?_drop, Qt hk, hc]
  obtain ⟨hk2, hnum⟩ := ZjW hl h0 hcol;have hcut : (s.extract p s.size).data.toList = ((s.extract p s.size).extract 0 k).data.toList ++ 58 :: (s.extract (p + k + 1) s.size).data.toList := by
    rw [ZV (a := s.extract p s.size), XO, XO, List.drop_zero, Nat.sub_zero];have e : (s.data.toList.drop p).drop k = 58 :: s.data.toList.drop (p + k + 1) := by
      rw [List.drop_drop];have hlt : p + k < s.data.toList.length := by omega
      rw [List.drop_eq_getElem_cons hlt];have := Qt hk;rw [List.getElem?_eq_getElem hlt] at this;rw [Option.some.inj this, hc]
    rw [← e, List.take_append_drop]
  have hsz : (s.extract (p + k + 1) s.size).size = s.size - (p + k + 1) := by rw [ByteArray.size_extract]; omega
  have := h.step hcut hnum (by omega);have e1 : (s.extract (p + k + 1) s.size).extract 0 n = s.extract (p + k + 1) (p + k + 1 + n) := Ys (by
    rw [ZV, XO, ZV, List.drop_zero]
    congr 1; omega)
  have e2 : (s.extract (p + k + 1) s.size).extract n (s.extract (p + k + 1) s.size).size = s.extract (p + k + 1 + n) s.size := Ys (by
    rw [XO, XO, XO, List.drop_drop])
  rw [e1, e2] at this;exact this
theorem ZgE {s : ByteArray} {xs l : List ByteArray} {p k n : Nat} (h : Jv s xs (s.extract p s.size)) (hl : l1S (s.extract p s.size) n k) (hr : IsRec s l) (hs : s.size ≤ 2048) (hp : p < s.size) : k ≠ 0 ∧ p + k < s.size ∧ s.get! (p + k) = 58 ∧ n ≤ s.size - (p + k + 1) := by
  have hz := Zf s;have hsz : (s.extract p s.size).size = s.size - p := by rw [ByteArray.size_extract]; omega
  have hne : ((s.extract p s.size).toList == (⟨#[]⟩ : ByteArray).toList) = false := by
    cases hq : ((s.extract p s.size).toList == (⟨#[]⟩ : ByteArray).toList) with
    | false => rfl
    | true =>
      have := ZJ hq;rw [this] at hsz;have : (⟨#[]⟩ : ByteArray).size = 0 := rfl
      omega
  obtain ⟨y, ws, e1, e2, e3, e4⟩ := h.go hr.is hs hr.many hne;have hy := (Y5 e3).1;obtain ⟨k1, k2, k3⟩ := Znl hl hy e2;have hp1 := Zdz y.size;have hlen := congrArg List.length e2;rw [List.length_append, List.length_cons, List.length_append, ← Zf, ← Zf, ← Zf, hsz] at hlen;have hkl : p + k < s.size := by omega
  refine ⟨by omega, hkl, ?_, by omega⟩;rw [XO, List.getElem?_drop, Qt hkl] at k3;exact Option.some.inj k3
theorem Za4 {s : ByteArray} {xs : List ByteArray} {p : Nat} (h : Jv s xs (s.extract p s.size)) (hp : ¬ p < s.size) : ZX xs = s := by
  refine h.done ?_;have : s.extract p s.size = (⟨#[]⟩ : ByteArray) := Ys (by rw [XO, List.drop_eq_nil_of_le (by rw [← Zf]; omega)]);rw [this]; exact beq_self_eq_true _
open Go.RowKit
section
variable {P : Program} {o : Oper} {a : Act} {w : World} {e : TypeId}
theorem Zi5 {t : TypeId} {x y z : Operand} (ho : o.op = .slice t x (some y) (some z) none) {g off n cap : Nat} (hx : a.eval x = .slice (some ⟨g, off, none⟩) n cap) {kk kl : IntKind} {m l : Int} (hy : a.eval y = .int kk m) (hz : a.eval z = .int kl l) {size : Nat} (hu : YG P t = some (e, size)) {k j : Nat} (hm : m = (k : Int)) (hl : l = (j : Int)) (hk : k ≤ j) (hj : j ≤ cap) (hc : k < cap) : Yl P w o a (.slice (some ⟨g, off + k * size, none⟩) (j - k) (cap - k)) := by
  unfold YG at hu
  split at hu
  · rename_i e' hu'
    split at hu
    · rename_i inf hq
      simp only [Option.some.injEq, Prod.mk.injEq] at hu;obtain ⟨_, rfl⟩ := hu;subst hm; subst hl;have h2 : ((k : Int) ≤ (j : Int)) := by omega
      have h4 : ((j : Int) ≤ (cap : Int)) := by omega
      have h3 : ¬ cap = k := by omega
      unfold Yl execOp;simp only [ho, hx, hy, hz, Option.map_some, Option.map_none, Instr.sliceAt, Instr.slice, Sem.run_bind, run_underlying hu' w, Result.andThen_ok];simp [Instr.slice, Instr.sliceBounds, Instr.sliceBound, asIntOf, go_sem, run_underlying hu' w, sizeOf, typeInfo, hq, h2, h3, h4, Addr.add];rw [if_pos hj]
      by_cases hz : k * inf.size = 0
      · rw [if_pos hz, if_pos hk, hz, Nat.add_zero]
      · rw [if_neg hz, if_pos hk]
    · cases hu
  · cases hu
end
theorem U5 {y : ByteArray} {n : Nat} (h : XV y = some n) : 0 ≤ (n : Int) ∧ (n : Int) ≤ 999999999 ∧ Zs (n : Int) = y := by
  have h1 := Y5 h;refine ⟨by omega, by omega, ?_⟩;rw [YH (by omega) (by omega), Int.toNat_natCast, h1.2]
structure IsTree (x y z : ByteArray) (t : Zo) : Prop where
  ok : t.fRoot.ok = true
  p : ZN t.fRoot = x
  d : 0 ≤ t.fDepth ∧ t.fDepth ≤ 999999999 ∧ Zs t.fDepth = y
  m : 0 ≤ t.fMany ∧ t.fMany ≤ 999999999 ∧ Zs t.fMany = z
theorem QQ {m n : Int} {y : ByteArray} (h : 0 ≤ m ∧ m ≤ 999999999 ∧ Zs m = y) (k : 0 ≤ n ∧ n ≤ 999999999 ∧ Zs n = y) : m = n := by
  have h1 := Z0 ⟨h.1, h.2.1⟩;have h2 := Z0 ⟨k.1, k.2.1⟩;rw [h.2.2] at h1;rw [k.2.2, h1] at h2;have := Option.some.inj h2
  omega
theorem IsTree.one {x y z : ByteArray} {t u : Zo} (h : IsTree x y z t) (k : IsTree x y z u) : t = u := by
  have h1 := Za1 h.ok k.ok (h.p.trans k.p.symm);have h2 := QQ h.d k.d;have h3 := QQ h.m k.m
  cases t; cases u
  simp only at h1 h2 h3;rw [h1, h2, h3]
theorem Zaf {y : ByteArray} {n : Int} (h : 0 ≤ n ∧ n ≤ 999999999 ∧ Zs n = y) (hg : XV y = none) : False := by
  have := Z0 ⟨h.1, h.2.1⟩;rw [h.2.2, hg] at this
  cases this
theorem Zmb (y : ByteArray) (ys : List ByteArray) : (ZX (y :: ys)).size = (ZE y.size).size + 1 + y.size + (ZX ys).size := by
  have h := congrArg List.length (Xn y ys);rw [← Zf, List.length_append, List.length_cons, List.length_append, ← Zf, ← Zf, ← Zf] at h
  omega
theorem Zag {y : ByteArray} {ys : List ByteArray} {B : Nat} (h : y.size ≤ 100) (hb : (ZX ys).size ≤ B) : (ZX (y :: ys)).size ≤ B + 110 := by
  rw [Zmb];have := JP (n := y.size) (by omega)
  omega
theorem Zcs.all {x : Zcs} (h : x.ok = true) : (1 ≤ x.fTxg ∧ x.fTxg ≤ 900) ∧ x.fMeta.fRoot.ok = true ∧ (0 ≤ x.fMeta.fDepth ∧ x.fMeta.fDepth ≤ 2) ∧ (1 ≤ x.fMeta.fMany ∧ x.fMeta.fMany ≤ 16) := by
  unfold Zcs.ok at h
  cases h1 : inB x.fTxg 1 900 with
  | false => rw [h1] at h; cases h
  | true =>
    cases h2 : x.fMeta.fRoot.ok with
    | false => rw [h1, h2] at h; cases h
    | true =>
      cases h3 : inB x.fMeta.fDepth 0 2 with
      | false => rw [h1, h2, h3] at h; cases h
      | true =>
        rw [h1, h2, h3] at h;have k1 := Zu h1;have k3 := Zu h3;have k4 := Zu (show inB x.fMeta.fMany 1 16 = true from h);exact ⟨by omega, rfl, by omega, by omega⟩
theorem Zi6 (a0 : Option Addr) (c0 : Nat) (x y z : ByteArray) (w0 : World) (hT : X1 w0) (hM : QF w0) (hE : Q7 w0) (hx : x.size ≤ 4294967280) (hR : Rd Zk 1 w0 a0 3 [x, y, z]) : Calls Tryz.prog 250 #[.slice a0 3 c0] w0 fun e w' => (∃ t : Zo, IsTree x y z t ∧ e = .returned (.tuple #[tV t, .bool true]) ∧ Below w0.heap.size w0 w') ∨ (∃ t : Zo, (∀ u, IsTree x y z u → False) ∧ e = .returned (.tuple #[tV t, .bool false]) ∧ Below w0.heap.size w0 w') := by
 have HT := Bx.mk hT; have HM := Bx.mk hM; have HE := Bx.mk hE; clear hT hM hE;obtain ⟨g0, o0, r0⟩ := hR.opn; have R0 := Bx.mk r0; clear r0 hR;have HS := Bx.mk (St.start w0);refine Zg Tryz.func250 rfl Tryz.ntmps250 [(0, .slice a0 3 c0)] ⟨rfl, trivial⟩ rfl ?_;refine xsr ?_;intro a HF;refine yal z7 HF HS ?_;clear HF HS a;intro a w1 b1 HF HS;revert a;refine xr 1 rfl<|xne<|xsr<|xr 1 rfl<|xy rfl (vxr 9 0 1 rfl (R0.out.ao 0 (by omega)))<|xy rfl (fun a HF=>ylo (v := .string x) rfl (HF.ev rfl) (R0.out.elem1 HS.out (show ([x, y, z] : List _)[0]? = some _ from rfl) rfl)) ?_;intro a HF;refine yc (ZdX x _ (HT.out.below HS.out.bel) (HM.out.below HS.out.bel) (HE.out.below HS.out.bel) (by omega)) HF Tryz.func263 ?_;rintro _ w2 (⟨p2, hpo2, hpt2, rfl, hb⟩ | ⟨hpn2, rfl, hb⟩);refine ⟨_, rfl, ?_⟩; replace HS := Bx.mk (HS.out.later hb);clear hb HF a;refine xr 3 rfl ?_;intro a HF;refine yal z5 HF HS ?_;clear HF HS a;intro a w3 b3 HF HS;refine yst HF HS 0 ?_;clear HS;intro w4 HS
 try dsimp only [List.set] at HS
 revert a;refine xr 1 rfl<|xne<|xsr<|xr 1 rfl<|xy rfl (vxr 9 1 1 rfl (R0.out.ao 1 (by omega)))<|xy rfl (fun a HF=>ylo (v := .string y) rfl (HF.ev rfl) (R0.out.elem1 HS.out (show ([x, y, z] : List _)[1]? = some _ from rfl) rfl)) ?_;intro a HF;refine yc (ZA y _ (HT.out.below HS.out.bel) (HE.out.below HS.out.bel)) HF Tryz.func208 ?_;rintro _ w5 (⟨n4, hg4, rfl, hb⟩ | ⟨hg4, rfl, hb⟩);refine ⟨_, rfl, ?_⟩; replace HS := Bx.mk (HS.out.later hb);clear hb HF a;refine xr 5 rfl<|xne<|xsr<|xr 1 rfl<|xy rfl (vxr 9 2 1 rfl (R0.out.ao 2 (by omega)))<|xy rfl (fun a HF=>ylo (v := .string z) rfl (HF.ev rfl) (R0.out.elem1 HS.out (show ([x, y, z] : List _)[2]? = some _ from rfl) rfl)) ?_;intro a HF;refine yc (ZA z _ (HT.out.below HS.out.bel) (HE.out.below HS.out.bel)) HF Tryz.func208 ?_;rintro _ w6 (⟨n5, hg5, rfl, hb⟩ | ⟨hg5, rfl, hb⟩);refine ⟨_, rfl, ?_⟩; replace HS := Bx.mk (HS.out.later hb);clear hb HF a;refine xr 5 rfl<|xne<|xsr<|xy rfl (vw HS.out 0 5 rfl rfl)<|xr 2 rfl<|xy rfl (vb [.int .i64 p2.fAt, .int .i64 p2.fBirth, .int .i64 p2.fSize, .int .i64 p2.fSum, .int .i64 p2.fLevel, .int .i64 (n4 : Int), .int .i64 (n5 : Int)] rfl)<|xr 7 rfl ?_;intro a HF;refine yst HF HS 1 ?_;clear HS;intro w7 HS
 try dsimp only [List.set] at HS
 revert a;refine xr 1 rfl<|xne<|xre ?_;intro a HF;refine ZI HF Tryz.results250 (HF.resBox rfl (HS.out.box 1 rfl) (by kernel_rfl)) (HF.res rfl) ?_;exact .inl ⟨⟨p2, (n4 : Int), (n5 : Int)⟩, ⟨hpo2, hpt2, U5 hg4, U5 hg5⟩, rfl, HS.out.bel⟩;refine ⟨_, rfl, ?_⟩; replace HS := Bx.mk (HS.out.later hb);clear hb HF a;refine xr 5 rfl<|xne<|xsr<|xy rfl (vw HS.out 0 5 rfl rfl)<|xr 2 rfl<|xy rfl (vb [.int .i64 p2.fAt, .int .i64 p2.fBirth, .int .i64 p2.fSize, .int .i64 p2.fSum, .int .i64 p2.fLevel, .int .i64 (n4 : Int), .int .i64 0] rfl)<|xr 7 rfl ?_;intro a HF;refine yst HF HS 1 ?_;clear HS;intro w8 HS
 try dsimp only [List.set] at HS
 revert a;refine xr 1 rfl<|xne<|xre ?_;intro a HF;refine ZI HF Tryz.results250 (HF.resBox rfl (HS.out.box 1 rfl) (by kernel_rfl)) (HF.res rfl) ?_;exact .inr ⟨⟨⟨p2.fAt, p2.fBirth, p2.fSize, p2.fSum, p2.fLevel⟩, (n4 : Int), 0⟩, fun u hu => Zaf hu.m hg5, rfl, HS.out.bel⟩;refine ⟨_, rfl, ?_⟩; replace HS := Bx.mk (HS.out.later hb);clear hb HF a;refine xr 5 rfl<|xne<|xsr<|xr 1 rfl<|xy rfl (vxr 9 2 1 rfl (R0.out.ao 2 (by omega)))<|xy rfl (fun a HF=>ylo (v := .string z) rfl (HF.ev rfl) (R0.out.elem1 HS.out (show ([x, y, z] : List _)[2]? = some _ from rfl) rfl)) ?_;intro a HF;refine yc (ZA z _ (HT.out.below HS.out.bel) (HE.out.below HS.out.bel)) HF Tryz.func208 ?_;rintro _ w9 (⟨n6, hg6, rfl, hb⟩ | ⟨hg6, rfl, hb⟩);refine ⟨_, rfl, ?_⟩; replace HS := Bx.mk (HS.out.later hb);clear hb HF a;refine xr 5 rfl<|xne<|xsr<|xy rfl (vw HS.out 0 5 rfl rfl)<|xr 2 rfl<|xy rfl (vb [.int .i64 p2.fAt, .int .i64 p2.fBirth, .int .i64 p2.fSize, .int .i64 p2.fSum, .int .i64 p2.fLevel, .int .i64 0, .int .i64 (n6 : Int)] rfl)<|xr 7 rfl ?_;intro a HF;refine yst HF HS 1 ?_;clear HS;intro w10 HS
 try dsimp only [List.set] at HS
 revert a;refine xr 1 rfl<|xne<|xre ?_;intro a HF;refine ZI HF Tryz.results250 (HF.resBox rfl (HS.out.box 1 rfl) (by kernel_rfl)) (HF.res rfl) ?_;exact .inr ⟨⟨⟨p2.fAt, p2.fBirth, p2.fSize, p2.fSum, p2.fLevel⟩, 0, (n6 : Int)⟩, fun u hu => Zaf hu.d hg4, rfl, HS.out.bel⟩;refine ⟨_, rfl, ?_⟩; replace HS := Bx.mk (HS.out.later hb);clear hb HF a;refine xr 5 rfl<|xne<|xsr<|xy rfl (vw HS.out 0 5 rfl rfl)<|xr 2 rfl<|xy rfl (vb [.int .i64 p2.fAt, .int .i64 p2.fBirth, .int .i64 p2.fSize, .int .i64 p2.fSum, .int .i64 p2.fLevel, .int .i64 0, .int .i64 0] rfl)<|xr 7 rfl ?_;intro a HF;refine yst HF HS 1 ?_;clear HS;intro w11 HS
 try dsimp only [List.set] at HS
 revert a;refine xr 1 rfl<|xne<|xre ?_;intro a HF;refine ZI HF Tryz.results250 (HF.resBox rfl (HS.out.box 1 rfl) (by kernel_rfl)) (HF.res rfl) ?_;exact .inr ⟨⟨⟨p2.fAt, p2.fBirth, p2.fSize, p2.fSum, p2.fLevel⟩, 0, 0⟩, fun u hu => Zaf hu.d hg4, rfl, HS.out.bel⟩;refine ⟨_, rfl, ?_⟩; replace HS := Bx.mk (HS.out.later hb);clear hb HF a;refine xr 3 rfl ?_;intro a HF;refine yal z5 HF HS ?_;clear HF HS a;intro a w12 b7 HF HS;refine yst HF HS 0 ?_;clear HS;intro w13 HS
 try dsimp only [List.set] at HS
 revert a;refine xr 1 rfl<|xne<|xsr<|xr 1 rfl<|xy rfl (vxr 9 1 1 rfl (R0.out.ao 1 (by omega)))<|xy rfl (fun a HF=>ylo (v := .string y) rfl (HF.ev rfl) (R0.out.elem1 HS.out (show ([x, y, z] : List _)[1]? = some _ from rfl) rfl)) ?_;intro a HF;refine yc (ZA y _ (HT.out.below HS.out.bel) (HE.out.below HS.out.bel)) HF Tryz.func208 ?_;rintro _ w14 (⟨n8, hg8, rfl, hb⟩ | ⟨hg8, rfl, hb⟩);refine ⟨_, rfl, ?_⟩; replace HS := Bx.mk (HS.out.later hb);clear hb HF a;refine xr 5 rfl<|xne<|xsr<|xr 1 rfl<|xy rfl (vxr 9 2 1 rfl (R0.out.ao 2 (by omega)))<|xy rfl (fun a HF=>ylo (v := .string z) rfl (HF.ev rfl) (R0.out.elem1 HS.out (show ([x, y, z] : List _)[2]? = some _ from rfl) rfl)) ?_;intro a HF;refine yc (ZA z _ (HT.out.below HS.out.bel) (HE.out.below HS.out.bel)) HF Tryz.func208 ?_;rintro _ w15 (⟨n9, hg9, rfl, hb⟩ | ⟨hg9, rfl, hb⟩);refine ⟨_, rfl, ?_⟩; replace HS := Bx.mk (HS.out.later hb);clear hb HF a;refine xr 5 rfl<|xne<|xsr<|xy rfl (vw HS.out 0 5 rfl rfl)<|xr 2 rfl<|xy rfl (vb [.int .i64 0, .int .i64 0, .int .i64 0, .int .i64 0, .int .i64 0, .int .i64 (n8 : Int), .int .i64 (n9 : Int)] rfl)<|xr 7 rfl ?_;intro a HF;refine yst HF HS 1 ?_;clear HS;intro w16 HS
 try dsimp only [List.set] at HS
 revert a;refine xr 1 rfl<|xne<|xre ?_;intro a HF;refine ZI HF Tryz.results250 (HF.resBox rfl (HS.out.box 1 rfl) (by kernel_rfl)) (HF.res rfl) ?_;exact .inr ⟨⟨⟨0, 0, 0, 0, 0⟩, (n8 : Int), (n9 : Int)⟩, fun u hu => hpn2 u.fRoot hu.ok hu.p, rfl, HS.out.bel⟩;refine ⟨_, rfl, ?_⟩; replace HS := Bx.mk (HS.out.later hb);clear hb HF a;refine xr 5 rfl<|xne<|xsr<|xy rfl (vw HS.out 0 5 rfl rfl)<|xr 2 rfl<|xy rfl (vb [.int .i64 0, .int .i64 0, .int .i64 0, .int .i64 0, .int .i64 0, .int .i64 (n8 : Int), .int .i64 0] rfl)<|xr 7 rfl ?_;intro a HF;refine yst HF HS 1 ?_;clear HS;intro w17 HS
 try dsimp only [List.set] at HS
 revert a;refine xr 1 rfl<|xne<|xre ?_;intro a HF;refine ZI HF Tryz.results250 (HF.resBox rfl (HS.out.box 1 rfl) (by kernel_rfl)) (HF.res rfl) ?_;exact .inr ⟨⟨⟨0, 0, 0, 0, 0⟩, (n8 : Int), 0⟩, fun u hu => hpn2 u.fRoot hu.ok hu.p, rfl, HS.out.bel⟩;refine ⟨_, rfl, ?_⟩; replace HS := Bx.mk (HS.out.later hb);clear hb HF a;refine xr 5 rfl<|xne<|xsr<|xr 1 rfl<|xy rfl (vxr 9 2 1 rfl (R0.out.ao 2 (by omega)))<|xy rfl (fun a HF=>ylo (v := .string z) rfl (HF.ev rfl) (R0.out.elem1 HS.out (show ([x, y, z] : List _)[2]? = some _ from rfl) rfl)) ?_;intro a HF;refine yc (ZA z _ (HT.out.below HS.out.bel) (HE.out.below HS.out.bel)) HF Tryz.func208 ?_;rintro _ w18 (⟨n10, hg10, rfl, hb⟩ | ⟨hg10, rfl, hb⟩);refine ⟨_, rfl, ?_⟩; replace HS := Bx.mk (HS.out.later hb);clear hb HF a;refine xr 5 rfl<|xne<|xsr<|xy rfl (vw HS.out 0 5 rfl rfl)<|xr 2 rfl<|xy rfl (vb [.int .i64 0, .int .i64 0, .int .i64 0, .int .i64 0, .int .i64 0, .int .i64 0, .int .i64 (n10 : Int)] rfl)<|xr 7 rfl ?_;intro a HF;refine yst HF HS 1 ?_;clear HS;intro w19 HS
 try dsimp only [List.set] at HS
 revert a;refine xr 1 rfl<|xne<|xre ?_;intro a HF;refine ZI HF Tryz.results250 (HF.resBox rfl (HS.out.box 1 rfl) (by kernel_rfl)) (HF.res rfl) ?_;exact .inr ⟨⟨⟨0, 0, 0, 0, 0⟩, 0, (n10 : Int)⟩, fun u hu => hpn2 u.fRoot hu.ok hu.p, rfl, HS.out.bel⟩;refine ⟨_, rfl, ?_⟩; replace HS := Bx.mk (HS.out.later hb);clear hb HF a;refine xr 5 rfl<|xne<|xsr<|xy rfl (vw HS.out 0 5 rfl rfl)<|xr 2 rfl<|xy rfl (vb z7 rfl)<|xr 7 rfl ?_;intro a HF;refine yst HF HS 1 ?_;clear HS;intro w20 HS
 try dsimp only [List.set] at HS
 revert a;refine xr 1 rfl<|xne<|xre ?_;intro a HF;refine ZI HF Tryz.results250 (HF.resBox rfl (HS.out.box 1 rfl) (by kernel_rfl)) (HF.res rfl) ?_;exact .inr ⟨⟨⟨0, 0, 0, 0, 0⟩, 0, 0⟩, fun u hu => hpn2 u.fRoot hu.ok hu.p, rfl, HS.out.bel⟩
open Go.RowKit
structure Zc where
  fKind : Int
  fLinks : Int
  fSize : Int
  fTree : Zo
abbrev nL (n : Zc) : List Value := [.int .i64 n.fKind, .int .i64 n.fLinks, .int .i64 n.fSize, .int .i64 n.fTree.fRoot.fAt, .int .i64 n.fTree.fRoot.fBirth, .int .i64 n.fTree.fRoot.fSize, .int .i64 n.fTree.fRoot.fSum, .int .i64 n.fTree.fRoot.fLevel, .int .i64 n.fTree.fDepth, .int .i64 n.fTree.fMany]
abbrev nV (n : Zc) : Value := .agg #[.int .i64 n.fKind, .int .i64 n.fLinks, .int .i64 n.fSize, .int .i64 n.fTree.fRoot.fAt, .int .i64 n.fTree.fRoot.fBirth, .int .i64 n.fTree.fRoot.fSize, .int .i64 n.fTree.fRoot.fSum, .int .i64 n.fTree.fRoot.fLevel, .int .i64 n.fTree.fDepth, .int .i64 n.fTree.fMany]
def Yb (kind : Int) : Int := if kind = 1 then 12 else if kind = 2 then 128 else 0
theorem Zi7 : Yb 1 = 12 := rfl
theorem Zah {k : Int} (h1 : k ≠ 1) (h2 : k ≠ 2) : Yb k = 0 := by unfold Yb; rw [if_neg h1, if_neg h2]
def Yd (kind size : Int) : Int := if Yb kind = 0 ∨ ¬ (0 ≤ size ∧ size ≤ 16 * Yb kind) then -1 else (size + Yb kind - 1) / Yb kind
theorem Zai {k s : Int} (h : Yb k = 0) : Yd k s = -1 := if_pos (.inl h)
theorem JE {k s : Int} (h : ¬ (0 ≤ s ∧ s ≤ 16 * Yb k)) : Yd k s = -1 := if_pos (.inr h)
theorem Ur {k s : Int} (h : Yb k ≠ 0) (h1 : 0 ≤ s) (h2 : s ≤ 16 * Yb k) : Yd k s = (s + Yb k - 1) / Yb k := if_neg fun e => e.elim h fun e => e ⟨h1, h2⟩
structure Zaj (n : Zc) : Prop where
  many : 0 ≤ Yd n.fKind n.fSize
  links : 1 ≤ n.fLinks ∧ n.fLinks ≤ if n.fKind = 2 then 1 else 9
  tmany : n.fTree.fMany = Yd n.fKind n.fSize
  depth : n.fTree.fDepth = ((depthN (Yd n.fKind n.fSize) : Nat) : Int)
  root : n.fTree.fRoot.ok = true
  level : n.fTree.fRoot.hole = true ∨ n.fTree.fRoot.fLevel = n.fTree.fDepth
instance (n : Zc) : Decidable (Zaj n) := decidable_of_iff (0 ≤ Yd n.fKind n.fSize ∧ (1 ≤ n.fLinks ∧ n.fLinks ≤ if n.fKind = 2 then 1 else 9) ∧ n.fTree.fMany = Yd n.fKind n.fSize ∧ n.fTree.fDepth = ((depthN (Yd n.fKind n.fSize) : Nat) : Int) ∧ n.fTree.fRoot.ok = true ∧ (n.fTree.fRoot.hole = true ∨ n.fTree.fRoot.fLevel = n.fTree.fDepth)) ⟨fun ⟨a, b, c, d, e, f⟩ => ⟨a, b, c, d, e, f⟩, fun ⟨a, b, c, d, e, f⟩ => ⟨a, b, c, d, e, f⟩⟩
def Zc.ok (n : Zc) : Bool := decide (Zaj n)
theorem Zc.ok_yes {n : Zc} (h : Zaj n) : n.ok = true := decide_eq_true h
theorem Zc.ok_no {n : Zc} (h : ¬ Zaj n) : n.ok = false := decide_eq_false h
theorem Zc.ok_is {n : Zc} (h : n.ok = true) : Zaj n := of_decide_eq_true h
structure Zoc (n : Zc) : Prop where
  kind : n.fKind = 1 ∨ n.fKind = 2
  links : 1 ≤ n.fLinks ∧ n.fLinks ≤ 9
  size : 0 ≤ n.fSize ∧ n.fSize ≤ 16 * Yb n.fKind
  is : Yd n.fKind n.fSize = (n.fSize + Yb n.fKind - 1) / Yb n.fKind
  many : 0 ≤ n.fTree.fMany ∧ n.fTree.fMany ≤ 16
  depth : 0 ≤ n.fTree.fDepth ∧ n.fTree.fDepth ≤ 2
theorem Zaj.small {n : Zc} (h : Zaj n) : Zoc n := by
  have hk : n.fKind = 1 ∨ n.fKind = 2 := by
    by_cases h1 : n.fKind = 1
    · exact .inl h1
    · by_cases h2 : n.fKind = 2
      · exact .inr h2
      · have := h.many
        rw [Zai (Zah h1 h2)] at this
        omega
  have he : 12 ≤ Yb n.fKind ∧ Yb n.fKind ≤ 128 := by rcases hk with e | e <;> rw [e] <;> decide
  have hs : 0 ≤ n.fSize ∧ n.fSize ≤ 16 * Yb n.fKind := by
    by_cases hs : 0 ≤ n.fSize ∧ n.fSize ≤ 16 * Yb n.fKind
    · exact hs
    · have := h.many
      rw [JE hs] at this
      omega
  have hp := Ur (k := n.fKind) (by omega) hs.1 hs.2;have hl := h.links;have hm : Yd n.fKind n.fSize ≤ 16 := by
    rw [hp];have : (n.fSize + Yb n.fKind - 1) / Yb n.fKind < 17 := Int.ediv_lt_of_lt_mul (by omega) (by omega)
    omega
  have hd := QH (Yd n.fKind n.fSize);have h1 := h.many;have h2 := h.tmany;have h3 := h.depth;refine ⟨hk, ⟨hl.1, ?_⟩, hs, hp, by omega, by omega⟩;have := hl.2
  split at this <;> omega
def Zop : ByteArray := ⟨#[101, 110, 100]⟩
def Xl (n : Zc) : List ByteArray := [Zs n.fKind, Zs n.fLinks, Zs n.fSize, ZN n.fTree.fRoot, Zs n.fTree.fDepth, Zs n.fTree.fMany, Zop]
def XD (n : Zc) : ByteArray := bif n.ok then (Z9 (Xl n)).1 else ByteArray.empty
theorem Za5 {n : Zc} (h : n.ok = false) : XD n = ByteArray.empty := by unfold XD; rw [h]; rfl
theorem ZbY {n : Zc} (h : n.ok = true) : XD n = (Z9 (Xl n)).1 := by unfold XD; rw [h]; rfl
theorem ZhE (n : Zc) : (ZX (Xl n)).size ≤ 1000 := by
  refine Nat.le_trans (Zag (Nat.le_trans (YC _) (by decide)) (Zag (Nat.le_trans (YC _) (by decide)) (Zag (Nat.le_trans (YC _) (by decide)) (Zag (Nat.le_trans (Zc6 _) (by decide)) (Zag (Nat.le_trans (YC _) (by decide)) (Zag (Nat.le_trans (YC _) (by decide)) (Zag (y := Zop) (by decide) (Nat.le_refl (ZX []).size)))))))) ?_;have h0 : (ZX []).size = 0 := rfl
  omega
theorem YS {n : Zc} (h : n.ok = true) : IsRec (XD n) (Xl n) := by
  rw [ZbY h, YJ (by simp only [Xl, List.length_cons, List.length_nil]; omega) (Nat.le_trans (ZhE n) (by decide))];exact ⟨rfl, by simp only [Xl, List.length_cons, List.length_nil]; omega⟩
theorem YT (n : Zc) : (XD n).size ≤ 1000 := by
  cases h : n.ok with
  | false => rw [Za5 h]; exact Nat.zero_le _
  | true => rw [← (YS h).is]; exact ZhE n
theorem ZkC {m n : Zc} (hm : m.ok = true) (hn : n.ok = true) (h : XD m = XD n) : m = n := by
  have h1 := YS hm;have h2 := YS hn;rw [h] at h1;have e := h1.one h2;simp only [Xl, List.cons.injEq, and_true] at e;obtain ⟨e1, e2, e3, e4, e5, e6⟩ := e;have a := (Zc.ok_is hm);have b := (Zc.ok_is hn);have sa := a.small;have sb := b.small;have ea : Yb m.fKind ≤ 128 := by rcases sa.kind with e | e <;> rw [e] <;> decide
  have eb : Yb n.fKind ≤ 128 := by rcases sb.kind with e | e <;> rw [e] <;> decide
  have k1 := sa.links; have k2 := sa.size; have k3 := sa.many; have k4 := sa.depth; have k5 := sa.kind;have l1 := sb.links; have l2 := sb.size; have l3 := sb.many; have l4 := sb.depth; have l5 := sb.kind;have j1 : m.fKind = n.fKind := QQ (y := Zs n.fKind) ⟨by omega, by omega, e1⟩ ⟨by omega, by omega, rfl⟩;have j2 : m.fLinks = n.fLinks := QQ (y := Zs n.fLinks) ⟨by omega, by omega, e2⟩ ⟨by omega, by omega, rfl⟩;have j3 : m.fSize = n.fSize := QQ (y := Zs n.fSize) ⟨by omega, by omega, e3⟩ ⟨by omega, by omega, rfl⟩;have j4 := Za1 a.root b.root e4;have j5 : m.fTree.fDepth = n.fTree.fDepth := QQ (y := Zs n.fTree.fDepth) ⟨by omega, by omega, e5⟩ ⟨by omega, by omega, rfl⟩;have j6 : m.fTree.fMany = n.fTree.fMany := QQ (y := Zs n.fTree.fMany) ⟨by omega, by omega, e6⟩ ⟨by omega, by omega, rfl⟩;obtain ⟨_, _, _, ⟨_, _, _⟩⟩ := m;obtain ⟨_, _, _, ⟨_, _, _⟩⟩ := n;simp only at j1 j2 j3 j4 j5 j6;rw [j1, j2, j3, j4, j5, j6]
open Classical in
noncomputable def J2 (s : ByteArray) : Option Zc := if h : ∃ n : Zc, n.ok = true ∧ XD n = s then some h.choose else none
theorem J3 {s : ByteArray} {n : Zc} (hn : n.ok = true) (h : XD n = s) : J2 s = some n := by
  have he : ∃ n : Zc, n.ok = true ∧ XD n = s := ⟨n, hn, h⟩;unfold J2;rw [dif_pos he];have hc := he.choose_spec;rw [ZkC hc.1 hn (hc.2.trans h.symm)]
theorem ZhF {s : ByteArray} (h : ∀ n : Zc, n.ok = true → XD n = s → False) : J2 s = none := by
  unfold J2;rw [dif_neg fun ⟨n, hn, hs⟩ => h n hn hs]
theorem ZhG {s : ByteArray} {n : Zc} (h : J2 s = some n) : n.ok = true ∧ XD n = s := by
  unfold J2 at h
  split at h
  · next he => rw [← Option.some.inj h]; exact he.choose_spec
  · cases h
theorem Y7 {n : Zc} (h : n.ok = true) : Zoc n ∧ XV (Zs n.fKind) = some n.fKind.toNat ∧ XV (Zs n.fLinks) = some n.fLinks.toNat ∧ XV (Zs n.fSize) = some n.fSize.toNat ∧ XV (Zs n.fTree.fDepth) = some n.fTree.fDepth.toNat ∧ XV (Zs n.fTree.fMany) = some n.fTree.fMany.toNat := by
  have sa := (Zc.ok_is h).small;have ea : Yb n.fKind ≤ 128 := by rcases sa.kind with e | e <;> rw [e] <;> decide
  have k1 := sa.links; have k2 := sa.size; have k3 := sa.many; have k4 := sa.depth; have k5 := sa.kind;exact ⟨sa, Z0 (by omega), Z0 (by omega), Z0 (by omega), Z0 (by omega), Z0 (by omega)⟩
open Go.RowKit
def ZgF (n : Nat) : ByteArray := ⟨(List.replicate n (0 : UInt8)).toArray⟩
theorem Zcw (n : Nat) : (ZgF n).size = n := by rw [Zf]; simp [ZgF]
def longN (size : Int) (k : Nat) : Nat := (min 12 (size - (k : Int) * 12)).toNat
theorem Zd5 (size : Int) (k : Nat) : longN size k ≤ 12 := by unfold longN; omega
def Ql (s : ByteArray) : Bool := s.data.toList.getLast? == some 0
def Ze8 (s : ByteArray) (n : Nat) : ByteArray := s ++ ZgF (n - s.size)
def QK (s : ByteArray) (n : Nat) : Bool := decide (s.size ≤ n) && !Ql s
theorem Zd6 {s : ByteArray} {n : Nat} (h : s.size ≤ n) (hz : Ql s = false) : QK s n = true := by unfold QK; rw [decide_eq_true h, hz]; rfl
theorem Zcx {s : ByteArray} {n : Nat} (h : ¬ s.size ≤ n) : QK s n = false := by unfold QK; rw [decide_eq_false h]; rfl
theorem Zcy {s : ByteArray} {n : Nat} (hz : Ql s = true) : QK s n = false := by unfold QK; rw [hz]; simp
theorem ZfM {s : ByteArray} {n : Nat} (h : s.size ≤ n) : (Ze8 s n).size = n := by
  unfold Ze8;rw [Zz, Zcw]; omega
noncomputable def XE (st : Za) (size : Int) : Nat → List PtrD → Option ByteArray
  | _, [] => some ByteArray.empty
  | k, p :: r => bif QK (Zm st p) (longN size k) then (XE st size (k + 1) r).map (Ze8 (Zm st p) (longN size k) ++ ·) else none
theorem Zmc {st : Za} {size : Int} {k : Nat} {p : PtrD} {r : List PtrD} (h : QK (Zm st p) (longN size k) = false) : XE st size k (p :: r) = none := by
  show (bif _ then _ else _) = _;rw [h]; rfl
theorem ZkD {st : Za} {size : Int} {k : Nat} {p : PtrD} {r : List PtrD} (h : QK (Zm st p) (longN size k) = true) : XE st size k (p :: r) = (XE st size (k + 1) r).map (Ze8 (Zm st p) (longN size k) ++ ·) := by
  show (bif _ then _ else _) = _;rw [h]; rfl
theorem ZhH {o : Option ByteArray} (a b : ByteArray) : (o.map (b ++ ·)).map (a ++ ·) = o.map ((a ++ b) ++ ·) := by
  cases o
  · rfl
  · simp only [Option.map_some, Option.some.injEq]
    exact (ZfJ _ _ _).symm
noncomputable def fileF (st : Za) (n : Zc) : Option ByteArray := bif n.ok && (n.fKind == 1) then (leavesF st n.fTree).bind (XE st n.fSize 0) else none
theorem Za6 {st : Za} {n : Zc} (h : (n.ok && (n.fKind == 1)) = false) : fileF st n = none := by unfold fileF; rw [h]; rfl
theorem Zd7 {st : Za} {n : Zc} (h : leavesF st n.fTree = none) : fileF st n = none := by
  unfold fileF;rw [h]
  cases (n.ok && (n.fKind == 1)) <;> rfl
theorem Q9 {st : Za} {n : Zc} {l : List PtrD} (h : (n.ok && (n.fKind == 1)) = true) (hl : leavesF st n.fTree = some l) : fileF st n = XE st n.fSize 0 l := by unfold fileF; rw [h, hl]; rfl
theorem ZfN {st : Za} {size : Int} {xs : List PtrD} {i : Nat} {b : ByteArray} (h : XE st size 0 xs = (XE st size i (xs.drop i)).map (b ++ ·)) (hi : i < xs.length) (hp : QK (Zm st (xs.getD i PtrD.zero)) (longN size i) = true) : XE st size 0 xs = (XE st size (i + 1) (xs.drop (i + 1))).map ((b ++ Ze8 (Zm st (xs.getD i PtrD.zero)) (longN size i)) ++ ·) := by
  have e : xs.drop i = xs.getD i PtrD.zero :: xs.drop (i + 1) := by rw [List.drop_eq_getElem_cons hi, List.getD_eq_getElem?_getD, List.getElem?_eq_getElem hi, Option.getD_some]
  rw [h, e, ZkD hp, ZhH]
theorem VK {st : Za} {size : Int} {xs : List PtrD} {i : Nat} {b : ByteArray} (h : XE st size 0 xs = (XE st size i (xs.drop i)).map (b ++ ·)) (hi : i < xs.length) (hp : QK (Zm st (xs.getD i PtrD.zero)) (longN size i) = false) : XE st size 0 xs = none := by
  have e : xs.drop i = xs.getD i PtrD.zero :: xs.drop (i + 1) := by rw [List.drop_eq_getElem_cons hi, List.getD_eq_getElem?_getD, List.getElem?_eq_getElem hi, Option.getD_some]
  rw [h, e, Zmc hp]; rfl
theorem ZhI {st : Za} {size : Int} {xs : List PtrD} {i : Nat} {b : ByteArray} (h : XE st size 0 xs = (XE st size i (xs.drop i)).map (b ++ ·)) (hi : ¬ i < xs.length) : XE st size 0 xs = some b := by
  rw [h, List.drop_eq_nil_of_le (by omega)];show some (b ++ ByteArray.empty) = _;rw [ByteArray.append_empty]
theorem Zd8 {st : Za} {size : Int} {xs : List PtrD} : XE st size 0 xs = (XE st size 0 (xs.drop 0)).map ((⟨#[]⟩ : ByteArray) ++ ·) := by
  rw [List.drop_zero]
  cases XE st size 0 xs with
  | none => rfl
  | some b => show some b = some (ByteArray.empty ++ b); rw [ByteArray.empty_append]
theorem ZhJ (s : ByteArray) : Go.Lib.hasSuffix s.data.toList [0] = Ql s := by
  unfold Go.Lib.hasSuffix Ql;generalize s.data.toList = l;rcases List.eq_nil_or_concat l with rfl | ⟨r, b, rfl⟩
  · rfl
  · rw [List.concat_eq_append, List.getLast?_concat]
    unfold List.isSuffixOf;rw [List.reverse_append, List.reverse_singleton, List.reverse_singleton, List.singleton_append];simp only [List.isPrefixOf, Bool.and_true]
    by_cases h : b = 0
    · subst h; rfl
    · rw [beq_eq_false_iff_ne.2 (Ne.symm h)]
      exact (beq_eq_false_iff_ne.2 fun e => h (Option.some.inj e)).symm
theorem ZfO {s : ByteArray} (h : ¬ 0 < s.size) : Ql s = false := by
  unfold Ql;rw [List.eq_nil_of_length_eq_zero (l := s.data.toList) (by rw [← Zf]; omega)]; rfl
theorem ZfP {s : ByteArray} (h : 0 < s.size) : Ql s = ((((s.get! (s.size - 1)).toNat : Nat) : Int) == 0) := by
  unfold Ql;rw [List.getLast?_eq_getElem?, ← Zf, Qt (by omega)]
  by_cases e : s.get! (s.size - 1) = 0
  · rw [e]; rfl
  · rw [beq_eq_false_iff_ne.2 fun x => e (Option.some.inj x)]
    refine (beq_eq_false_iff_ne.2 fun x => e ?_).symm;have : (s.get! (s.size - 1)).toNat = 0 := by omega
    exact UInt8.toNat_inj.1 this
def Ze9 (s : ByteArray) : ByteArray := ⟨(s.data.toList.reverse.dropWhile (· == 0)).reverse.toArray⟩
theorem ZbZ {s : ByteArray} (h : Ql s = false) : Ze9 s = s := by
  apply Ys
  show (s.data.toList.reverse.dropWhile (· == 0)).reverse = s.data.toList;unfold Ql at h;rcases List.eq_nil_or_concat s.data.toList with e | ⟨r, b, e⟩
  · rw [e]; rfl
  · rw [e, List.concat_eq_append, List.getLast?_concat] at h
    have hb : b ≠ 0 := fun x => by rw [x] at h; exact absurd h (by decide)
    rw [e, List.concat_eq_append, List.reverse_append, List.reverse_singleton, List.singleton_append, List.dropWhile_cons, if_neg (by simpa using hb), List.reverse_cons, List.reverse_reverse]
theorem ZfQ {s : ByteArray} (h : Ql s = true) : Ze9 (s.extract 0 (s.size - 1)) = Ze9 s := by
  unfold Ze9
  congr 3
  rw [ZV, List.drop_zero, Nat.sub_zero, Zf, ← List.dropLast_eq_take];unfold Ql at h;rcases List.eq_nil_or_concat s.data.toList with e | ⟨r, b, e⟩
  · rw [e] at h; cases h
  · rw [e, List.concat_eq_append, List.getLast?_concat] at h
    obtain rfl : b = 0 := by simpa using h
    rw [e, List.concat_eq_append, List.dropLast_concat, List.reverse_append, List.reverse_singleton, List.singleton_append, List.dropWhile_cons]; rfl
theorem ZkE (s : ByteArray) : (Ze9 s).size ≤ s.size := by
  rw [Zf, Zf];show ((s.data.toList.reverse.dropWhile (· == 0)).reverse).length ≤ _;rw [List.length_reverse];have : ∀ l : List UInt8, (l.dropWhile (· == 0)).length ≤ l.length := fun l => by
    induction l with
    | nil => exact Nat.le_refl _
    | cons a r ih => rw [List.dropWhile_cons]; split <;> simp only [List.length_cons] <;> omega
  exact Nat.le_trans (this _) (by rw [List.length_reverse]; exact Nat.le_refl _)
theorem ZjX (s : ByteArray) : ((Ze9 s).toList == s.toList) = !Ql s := by
  cases h : Ql s with
  | false => rw [ZbZ h]; exact beq_self_eq_true _
  | true =>
    refine beq_eq_false_iff_ne.2 fun e => ?_;have e2 : Ze9 s = s := ZJ (beq_iff_eq.2 e);have h1 := ZkE (s.extract 0 (s.size - 1));rw [ZfQ h, e2, ByteArray.size_extract] at h1;have : 0 < s.size := by
      by_cases hp : 0 < s.size
      · exact hp
      · rw [ZfO hp] at h; cases h
    omega
open Go.RowKit
noncomputable def XP (st : Za) : List PtrD → Option (List (Option Zc))
  | [] => some []
  | p :: r => bif p.hole then (XP st r).map (none :: ·) else match J2 (Zm st p) with
    | none => none
    | some n => bif Qk st n.fTree then (XP st r).map (some n :: ·) else none
noncomputable def tabF (st : Za) (t : Zo) : Option (List (Option Zc)) := (leavesF st t).bind (XP st)
theorem Zb0 {st : Za} {t : Zo} (h : leavesF st t = none) : tabF st t = none := by unfold tabF; rw [h]; rfl
theorem QL {st : Za} {t : Zo} {l : List PtrD} (h : leavesF st t = some l) : tabF st t = XP st l := by unfold tabF; rw [h]; rfl
theorem VL {st : Za} {p : PtrD} {r : List PtrD} (h : p.hole = true) : XP st (p :: r) = (XP st r).map (none :: ·) := by
  show (bif p.hole then _ else _) = _;rw [h]; rfl
theorem Za7 {st : Za} {p : PtrD} {r : List PtrD} (h : p.hole = false) (hn : J2 (Zm st p) = none) : XP st (p :: r) = none := by
  show (bif p.hole then _ else _) = _;rw [h, hn]; rfl
theorem VM {st : Za} {p : PtrD} {r : List PtrD} {n : Zc} (h : p.hole = false) (hn : J2 (Zm st p) = some n) (ht : Qk st n.fTree = false) : XP st (p :: r) = none := by
  show (bif p.hole then _ else _) = _;rw [h, hn];simp only [cond_false, ht]
theorem Za8 {st : Za} {p : PtrD} {r : List PtrD} {n : Zc} (h : p.hole = false) (hn : J2 (Zm st p) = some n) (ht : Qk st n.fTree = true) : XP st (p :: r) = (XP st r).map (some n :: ·) := by
  show (bif p.hole then _ else _) = _;rw [h, hn];simp only [cond_false, ht, cond_true]
theorem Zmd {α : Type} {o : Option (List α)} (a b : List α) : (o.map (b ++ ·)).map (a ++ ·) = o.map ((a ++ b) ++ ·) := by cases o <;> simp
theorem ZhK {α : Type} {o : Option (List α)} : o = o.map (([] : List α) ++ ·) := by cases o <;> simp
theorem Us {xs : List PtrD} {i : Nat} (h : i < xs.length) : xs.drop i = xs.getD i PtrD.zero :: xs.drop (i + 1) := by
  rw [List.drop_eq_getElem_cons h, List.getD_eq_getElem?_getD, List.getElem?_eq_getElem h]; rfl
theorem Za9 {st : Za} {xs : List PtrD} {i : Nat} {b : List (Option Zc)} (h : XP st xs = (XP st (xs.drop i)).map (b ++ ·)) (hi : i < xs.length) (hp : XP st (xs.getD i PtrD.zero :: xs.drop (i + 1)) = none) : XP st xs = none := by
  rw [h, Us hi, hp]; rfl
theorem Zba {st : Za} {xs : List PtrD} {i : Nat} {b : List (Option Zc)} (h : XP st xs = (XP st (xs.drop i)).map (b ++ ·)) (hi : i < xs.length) {o : Option Zc} (hp : XP st (xs.getD i PtrD.zero :: xs.drop (i + 1)) = (XP st (xs.drop (i + 1))).map (o :: ·)) : XP st xs = (XP st (xs.drop (i + 1))).map ((b ++ [o]) ++ ·) := by
  rw [h, Us hi, hp, ← Zmd]; rfl
theorem ZjY {st : Za} {xs : List PtrD} {i : Nat} {b : List (Option Zc)} (h : XP st xs = (XP st (xs.drop i)).map (b ++ ·)) (hi : ¬ i < xs.length) : XP st xs = some b := by
  rw [h, List.drop_of_length_le (by omega)];show some (b ++ []) = _;rw [List.append_nil]
theorem ZhL {st : Za} : ∀ {l : List PtrD} {ns : List (Option Zc)}, XP st l = some ns → ns.length = l.length
  | [], ns, h => by obtain rfl := Option.some.inj h; rfl
  | p :: r, ns, h => by
    have key : ∀ o : Option Zc, (XP st r).map (o :: ·) = some ns → ns.length = (p :: r).length := fun o h => by
      cases hr : XP st r with
      | none => rw [hr] at h; cases h
      | some m =>
        rw [hr] at h;obtain rfl := Option.some.inj h;rw [List.length_cons, List.length_cons, ZhL hr]
    cases hh : p.hole with
    | true => exact key _ ((VL hh).symm.trans h)
    | false =>
      cases hn : J2 (Zm st p) with
      | none => rw [Za7 hh hn] at h; cases h
      | some n =>
        cases ht : Qk st n.fTree with
        | false => rw [VM hh hn ht] at h; cases h
        | true => exact key _ ((Za8 hh hn ht).symm.trans h)
theorem XQ {st : Za} {t : Zo} {l : List PtrD} (h : leavesF st t = some l) : l.length ≤ 16 := by
  obtain ⟨x, ht, hd, _, rfl, hx, hn⟩ := QJ h;unfold topB at ht;rw [Bool.and_eq_true] at ht;have := Zu ht.1
  omega
def ZhM (st : Za) (p : PtrD) (o : Option Zc) : Prop := (p.hole = true ∧ o = none) ∨ (p.hole = false ∧ ∃ n, o = some n ∧ J2 (Zm st p) = some n ∧ Qk st n.fTree = true)
theorem Zc9 {st : Za} : ∀ {l : List PtrD} {ns : List (Option Zc)}, XP st l = some ns → ∀ k, k < l.length → ZhM st (l.getD k PtrD.zero) (ns.getD k none)
  | [], ns, h, k, hk => absurd hk (Nat.not_lt_zero _)
  | p :: r, ns, h, k, hk => by
    have key : ∀ o : Option Zc, ZhM st p o → (XP st r).map (o :: ·) = some ns → ZhM st ((p :: r).getD k PtrD.zero) (ns.getD k none) := fun o ho h => by
      cases hr : XP st r with
      | none => rw [hr] at h; cases h
      | some m =>
        rw [hr] at h;obtain rfl := Option.some.inj h
        cases k with
        | zero => exact ho
        | succ k => exact Zc9 hr k (by simpa using hk)
    cases hh : p.hole with
    | true => exact key _ (.inl ⟨hh, rfl⟩) ((VL hh).symm.trans h)
    | false =>
      cases hn : J2 (Zm st p) with
      | none => rw [Za7 hh hn] at h; cases h
      | some n =>
        cases ht : Qk st n.fTree with
        | false => rw [VM hh hn ht] at h; cases h
        | true => exact key _ (.inr ⟨hh, n, rfl, hn, ht⟩) ((Za8 hh hn ht).symm.trans h)
theorem ZgG {st : Za} {t : Zo} {ns : List (Option Zc)} (h : tabF st t = some ns) : ∃ l, leavesF st t = some l ∧ XP st l = some ns ∧ ns.length = l.length := by
  cases hl : leavesF st t with
  | none => rw [Zb0 hl] at h; cases h
  | some l => rw [QL hl] at h; exact ⟨l, rfl, h, ZhL h⟩
theorem Zi8 {st : Za} {t : Zo} {l : List PtrD} (h : leavesF st t = some l) : Qk st t = true := by unfold Qk; rw [h]; rfl
theorem ZkF {st : Za} {t : Zo} (h : leavesF st t = none) : Qk st t = false := by unfold Qk; rw [h]; rfl
noncomputable def Zd9 (st : Za) (t : Zo) : Option (List (Option Zc)) := bif st.ok then tabF st t else none
theorem ZjZ {st : Za} {t : Zo} (h : st.ok = false) : Zd9 st t = none := by unfold Zd9; rw [h]; rfl
theorem Ut {st : Za} {t : Zo} (h : st.ok = true) : Zd9 st t = tabF st t := by unfold Zd9; rw [h]; rfl
theorem Zda {st : Za} {t : Zo} {ns : List (Option Zc)} (h : Zd9 st t = some ns) : st.ok = true ∧ tabF st t = some ns := by
  cases hs : st.ok with
  | false => rw [ZjZ hs] at h; cases h
  | true => rw [Ut hs] at h; exact ⟨rfl, h⟩
open Go.RowKit Go.Lib
structure Zb where
  fName : ByteArray
  fId : Int
def Zb.zero : Zb := ⟨ByteArray.empty, 0⟩
def Zb.cells (e : Zb) : List Value := [.string e.fName, .int .i64 e.fId]
theorem Zb.cells_len (e : Zb) : e.cells.length = 2 := rfl
def Zea (e : Zb) : Bool := Ym e.fName && inB e.fId 1 15
def Xt (l : List Zb) (i : Nat) : Bool := Zea (l.getD i Zb.zero) && (i == 0 || Op.bytesLess (l.getD (i - 1) Zb.zero).fName.toList (l.getD i Zb.zero).fName.toList)
def Z4 (l : List Zb) : Bool := decide (∀ i, i < l.length → Xt l i = true) && decide (l.length ≤ 12)
theorem YM {l : List Zb} (h : Z4 l = true) : (∀ i, i < l.length → Xt l i = true) ∧ l.length ≤ 12 := by
  unfold Z4 at h;rw [Bool.and_eq_true] at h;exact ⟨of_decide_eq_true h.1, of_decide_eq_true h.2⟩
theorem J4 {l : List Zb} (h : ∀ i, i < l.length → Xt l i = true) (hl : l.length ≤ 12) : Z4 l = true := by
  unfold Z4; rw [decide_eq_true h, decide_eq_true hl]; rfl
theorem Ja {l : List Zb} {i : Nat} (hi : i < l.length) (h : Xt l i = false) : Z4 l = false := by
  unfold Z4; rw [decide_eq_false fun k => by rw [k i hi] at h; cases h]; rfl
theorem Zeb {l : List Zb} {i : Nat} (h : Ym (l.getD i Zb.zero).fName = false) : Xt l i = false := by unfold Xt Zea; rw [h]; rfl
theorem ZhN {l : List Zb} {i : Nat} (h : inB (l.getD i Zb.zero).fId 1 15 = false) : Xt l i = false := by unfold Xt Zea; rw [h, Bool.and_false]; rfl
theorem Zec {l : List Zb} {i : Nat} (h0 : i ≠ 0) (h : Op.bytesLess (l.getD (i - 1) Zb.zero).fName.toList (l.getD i Zb.zero).fName.toList = false) : Xt l i = false := by
  unfold Xt;rw [h, beq_eq_false_iff_ne.2 h0]; simp
theorem VN {l : List Zb} {i : Nat} (h1 : Ym (l.getD i Zb.zero).fName = true) (h2 : inB (l.getD i Zb.zero).fId 1 15 = true) (h3 : i = 0 ∨ Op.bytesLess (l.getD (i - 1) Zb.zero).fName.toList (l.getD i Zb.zero).fName.toList = true) : Xt l i = true := by
  unfold Xt Zea;rw [h1, h2];rcases h3 with h3 | h3
  · rw [h3]; rfl
  · rw [h3]; simp
theorem ZhO {l : List Zb} {i : Nat} (h : Xt l i = true) : Ym (l.getD i Zb.zero).fName = true ∧ 1 ≤ (l.getD i Zb.zero).fId ∧ (l.getD i Zb.zero).fId ≤ 15 ∧ (i = 0 ∨ Op.bytesLess (l.getD (i - 1) Zb.zero).fName.toList (l.getD i Zb.zero).fName.toList = true) := by
  unfold Xt Zea at h;simp only [Bool.and_eq_true, Bool.or_eq_true, beq_iff_eq] at h;have := Zu h.1.2;exact ⟨h.1.1, this.1, this.2, h.2⟩
theorem Yv {l : List Zb} (h : Z4 l = true) {e : Zb} (he : e ∈ l) : Ym e.fName = true ∧ 1 ≤ e.fId ∧ e.fId ≤ 15 := by
  obtain ⟨i, hi, rfl⟩ := List.getElem_of_mem he;have := ZhO ((YM h).1 i hi);rw [show l.getD i Zb.zero = l[i] by rw [List.getD_eq_getElem?_getD, List.getElem?_eq_getElem hi]; rfl] at this;exact ⟨this.1, this.2.1, this.2.2.1⟩
def UL (e : Zb) : List UInt8 := e.fName.data.toList ++ 61 :: (Zs e.fId).data.toList
def Qm (l : List Zb) : List UInt8 := l.flatMap fun e => UL e ++ [59]
def Zbb (l : List Zb) : ByteArray := ⟨(Qm l).toArray⟩
theorem Uu (l : List Zb) : (Zbb l).data.toList = Qm l := rfl
theorem XF (e : Zb) (l : List Zb) : Qm (e :: l) = UL e ++ 59 :: Qm l := by unfold Qm; rw [List.flatMap_cons, List.append_assoc]; rfl
theorem ZfR (a b : List Zb) : Qm (a ++ b) = Qm a ++ Qm b := by unfold Qm; rw [List.flatMap_append]
structure IsEnts (s : ByteArray) (l : List Zb) : Prop where
  ok : Z4 l = true
  is : Zbb l = s
theorem J5 {s : ByteArray} (h : Ym s = true) (c : UInt8) (hc : Xy c = false) : ∀ x ∈ s.data.toList, x ≠ c := by
  unfold Ym at h;rw [Bool.and_eq_true] at h;intro x hx e;have := List.all_eq_true.1 h.2 x hx;rw [e, hc] at this; cases this
theorem Zb1 {s : ByteArray} (h : Ym s = true) : 1 ≤ s.size ∧ s.size ≤ 4 := by
  unfold Ym at h;rw [Bool.and_eq_true] at h;have := Zu h.1
  omega
theorem Zoq (n : Int) (c : UInt8) (hc : digitVal c = none) : c ∉ (Zs n).data.toList := fun h => ZgA c hc n c h rfl
theorem QX {e : Zb} (h : Ym e.fName = true) : (59 : UInt8) ∉ UL e := by
  unfold UL;intro hm;rcases List.mem_append.1 hm with hm | hm
  · exact J5 h 59 (by decide) 59 hm rfl
  · rcases List.mem_cons.1 hm with hm | hm
    · cases hm
    · exact Zoq _ 59 (by decide) hm
theorem QR {c : UInt8} : ∀ {a b x y : List UInt8}, c ∉ a → c ∉ x → a ++ c :: b = x ++ c :: y → a = x ∧ b = y
  | [], b, [], y, _, _, h => by simpa using h
  | [], b, z :: x, y, _, hx, h => by
    simp only [List.nil_append, List.cons_append, List.cons.injEq] at h;exact absurd (h.1 ▸ List.mem_cons_self ..) hx
  | z :: a, b, [], y, ha, _, h => by
    simp only [List.nil_append, List.cons_append, List.cons.injEq] at h;exact absurd (h.1 ▸ List.mem_cons_self ..) ha
  | z :: a, b, u :: x, y, ha, hx, h => by
    simp only [List.cons_append, List.cons.injEq] at h;obtain ⟨e1, e2⟩ := QR (fun hm => ha (List.mem_cons_of_mem _ hm)) (fun hm => hx (List.mem_cons_of_mem _ hm)) h.2;exact ⟨by rw [h.1, e1], e2⟩
theorem ZhP {m n : Int} (hm : 0 ≤ m ∧ m ≤ 999999999) (hn : 0 ≤ n ∧ n ≤ 999999999) (h : Zs m = Zs n) : m = n := by
  have h1 := Z0 hm;rw [h, Z0 hn] at h1;have := Option.some.inj h1
  omega
theorem Xj {a b : ByteArray} (h : a.data.toList = b.data.toList) : a = b := by
  cases a; cases b
  simp only [ByteArray.mk.injEq];exact Array.toList_inj.1 h
theorem Zme {e f : Zb} (h1 : Ym e.fName = true) (h2 : Ym f.fName = true) (i1 : 0 ≤ e.fId ∧ e.fId ≤ 999999999) (i2 : 0 ≤ f.fId ∧ f.fId ≤ 999999999) (h : UL e = UL f) : e = f := by
  obtain ⟨a, b⟩ := QR (fun hm => J5 h1 61 (by decide) 61 hm rfl) (fun hm => J5 h2 61 (by decide) 61 hm rfl) h
  cases e; cases f
  simp only at *;rw [Xj a, ZhP i1 i2 (Xj b)]
theorem ZfS : ∀ {l m : List Zb}, (∀ e ∈ l, Ym e.fName = true ∧ 1 ≤ e.fId ∧ e.fId ≤ 15) → (∀ e ∈ m, Ym e.fName = true ∧ 1 ≤ e.fId ∧ e.fId ≤ 15) → Qm l = Qm m → l = m
  | [], [], _, _, _ => rfl
  | [], e :: m, _, _, h => by rw [XF] at h; simp [Qm] at h
  | e :: l, [], _, _, h => by rw [XF] at h; simp [Qm] at h
  | e :: l, f :: m, hl, hm, h => by
    have a := hl e (List.mem_cons_self ..);have b := hm f (List.mem_cons_self ..);rw [XF, XF] at h;obtain ⟨e1, e2⟩ := QR (QX a.1) (QX b.1) h;rw [Zme a.1 b.1 (by omega) (by omega) e1, ZfS (fun x hx => hl x (List.mem_cons_of_mem _ hx)) (fun x hx => hm x (List.mem_cons_of_mem _ hx)) e2]
theorem IsEnts.one {s : ByteArray} {l m : List Zb} (h : IsEnts s l) (k : IsEnts s m) : l = m :=
  ZfS (fun _ he => Yv h.ok he) (fun _ he => Yv k.ok he) (congrArg (fun s : ByteArray => s.data.toList) (h.is.trans k.is.symm))
open Classical in
noncomputable def entsG (s : ByteArray) : Option (List Zb) := if h : ∃ l, IsEnts s l then some h.choose else none
theorem Zb2 {s : ByteArray} {l : List Zb} (h : IsEnts s l) : entsG s = some l := by
  have he : ∃ l, IsEnts s l := ⟨l, h⟩;unfold entsG;rw [dif_pos he, he.choose_spec.one h]
theorem Y8 {s : ByteArray} (h : ∀ l, IsEnts s l → False) : entsG s = none := by
  unfold entsG;rw [dif_neg fun ⟨l, hl⟩ => h l hl]
theorem Zmf {s : ByteArray} {l : List Zb} (h : entsG s = some l) : IsEnts s l := by
  by_cases he : ∃ m, IsEnts s m
  · obtain ⟨m, hm⟩ := he
    rw [Zb2 hm] at h;obtain rfl := Option.some.inj h;exact hm
  · rw [Y8 fun m hm => he ⟨m, hm⟩] at h; cases h
noncomputable def blobL (st : Za) : List PtrD → Option ByteArray
  | [] => some ByteArray.empty
  | p :: r => bif (Zm st p).size == 0 || (!r.isEmpty && (Zm st p).size != 128) then none else (blobL st r).map (Zm st p ++ ·)
theorem ZhQ {st : Za} {p : PtrD} {r : List PtrD} (h : (Zm st p).size = 0 ∨ r ≠ [] ∧ (Zm st p).size ≠ 128) : blobL st (p :: r) = none := by
  show (bif _ then _ else _) = _;have : ((Zm st p).size == 0 || (!r.isEmpty && (Zm st p).size != 128)) = true := by
    rcases h with h | ⟨h, h2⟩
    · rw [h]; rfl
    · cases r with
      | nil => exact absurd rfl h
      | cons a b => simp [h2]
  rw [this]; rfl
theorem ZfT {st : Za} {p : PtrD} {r : List PtrD} (h : (Zm st p).size ≠ 0) (h2 : r = [] ∨ (Zm st p).size = 128) : blobL st (p :: r) = (blobL st r).map (Zm st p ++ ·) := by
  show (bif _ then _ else _) = _;have : ((Zm st p).size == 0 || (!r.isEmpty && (Zm st p).size != 128)) = false := by
    rw [beq_eq_false_iff_ne.2 h, Bool.false_or];rcases h2 with h2 | h2
    · rw [h2]; rfl
    · rw [h2]; simp
  rw [this]; rfl
theorem VO {st : Za} {xs : List PtrD} {i : Nat} {b : ByteArray} (h : blobL st xs = (blobL st (xs.drop i)).map (b ++ ·)) (hi : i < xs.length) (h1 : (Zm st (xs.getD i PtrD.zero)).size ≠ 0) (h2 : i + 1 = xs.length ∨ (Zm st (xs.getD i PtrD.zero)).size = 128) : blobL st xs = (blobL st (xs.drop (i + 1))).map ((b ++ Zm st (xs.getD i PtrD.zero)) ++ ·) := by
  rw [h, Us hi, ZfT h1 (by
    rcases h2 with h2 | h2
    · exact .inl (List.drop_of_length_le (by omega))
    · exact .inr h2), ZhH]
theorem J6 {st : Za} {xs : List PtrD} {i : Nat} {b : ByteArray} (h : blobL st xs = (blobL st (xs.drop i)).map (b ++ ·)) (hi : i < xs.length) (h1 : (Zm st (xs.getD i PtrD.zero)).size = 0 ∨ i + 1 < xs.length ∧ (Zm st (xs.getD i PtrD.zero)).size ≠ 128) : blobL st xs = none := by
  rw [h, Us hi, ZhQ (by
    rcases h1 with h1 | ⟨h1, h2⟩
    · exact .inl h1
    · exact .inr ⟨fun e => by have := congrArg List.length e; rw [List.length_drop, List.length_nil] at this; omega, h2⟩)]; rfl
theorem ZhR {st : Za} {xs : List PtrD} {i : Nat} {b : ByteArray} (h : blobL st xs = (blobL st (xs.drop i)).map (b ++ ·)) (hi : ¬ i < xs.length) : blobL st xs = some b := by
  rw [h, List.drop_of_length_le (by omega)];show some (b ++ ByteArray.empty) = some b;rw [show b ++ ByteArray.empty = b from Xj (by rw [ZH]; exact List.append_nil _)]
theorem Zed {st : Za} {xs : List PtrD} : blobL st xs = (blobL st (xs.drop 0)).map ((⟨#[]⟩ : ByteArray) ++ ·) := by
  rw [List.drop_zero]
  cases blobL st xs with
  | none => rfl
  | some b => exact congrArg some (Xj (by rw [ZH]; rfl)).symm
theorem Zak {st : Za} (hr : ∀ p, (Zm st p).size ≤ 128) : ∀ {l : List PtrD} {t : ByteArray}, blobL st l = some t → t.size ≤ 128 * l.length
  | [], t, h => by obtain rfl := Option.some.inj h; exact Nat.zero_le _
  | p :: r, t, h => by
    by_cases hc : (Zm st p).size = 0 ∨ r ≠ [] ∧ (Zm st p).size ≠ 128
    · rw [ZhQ hc] at h; cases h
    · have h1 : (Zm st p).size ≠ 0 := fun e => hc (.inl e)
      have h2 : r = [] ∨ (Zm st p).size = 128 := by
        by_cases hn : r = []
        · exact .inl hn
        · by_cases h3 : (Zm st p).size = 128
          · exact .inr h3
          · exact absurd (.inr ⟨hn, h3⟩) hc
      rw [ZfT h1 h2] at h
      cases hb : blobL st r with
      | none => rw [hb] at h; cases h
      | some u =>
        rw [hb] at h;obtain rfl := Option.some.inj h;have := Zak hr hb;have := hr p;rw [Zz, List.length_cons]; omega
noncomputable def dirF (st : Za) (n : Zc) : Option (List Zb) := (leavesF st n.fTree).bind fun l => (blobL st l).bind fun s => bif (s.size : Int) == n.fSize then entsG s else none
theorem Zb3 {st : Za} {n : Zc} (h : leavesF st n.fTree = none) : dirF st n = none := by unfold dirF; rw [h]; rfl
theorem Zb4 {st : Za} {n : Zc} {l : List PtrD} (h : leavesF st n.fTree = some l) (hb : blobL st l = none) : dirF st n = none := by unfold dirF; rw [h]; simp only [Option.bind_some]; rw [hb]; rfl
theorem Zb5 {st : Za} {n : Zc} {l : List PtrD} {s : ByteArray} (h : leavesF st n.fTree = some l) (hb : blobL st l = some s) (hs : (s.size : Int) ≠ n.fSize) : dirF st n = none := by
  unfold dirF; rw [h]; simp only [Option.bind_some]; rw [hb];show (bif _ then _ else _) = _;rw [beq_eq_false_iff_ne.2 hs]; rfl
theorem Zbc {st : Za} {n : Zc} {l : List PtrD} {s : ByteArray} (h : leavesF st n.fTree = some l) (hb : blobL st l = some s) (hs : (s.size : Int) = n.fSize) : dirF st n = entsG s := by
  unfold dirF; rw [h]; simp only [Option.bind_some]; rw [hb];show (bif _ then _ else _) = _;rw [beq_iff_eq.2 hs]; rfl
theorem Zdb {st : Za} {n : Zc} {es : List Zb} (h : dirF st n = some es) : Z4 es = true := by
  cases hl : leavesF st n.fTree with
  | none => rw [Zb3 hl] at h; cases h
  | some l =>
    cases hb : blobL st l with
    | none => rw [Zb4 hl hb] at h; cases h
    | some s =>
      by_cases hs : (s.size : Int) = n.fSize
      · rw [Zbc hl hb hs] at h; exact (Zmf h).ok
      · rw [Zb5 hl hb hs] at h; cases h
end Go.Proofs.YtigjfacaofgjjaaGreatDoor
namespace Go.Proofs.YtigjfacaofgjjaaGreatDoor.LinkP
set_option linter.unusedVariables false
set_option linter.unusedSimpArgs false
set_option maxHeartbeats 1000000
set_option maxRecDepth 100000
section
variable (kd : Nat → List Nat) (isF valid : Nat → Bool)
def rowGood (Q : List Nat) (h : Nat) : Prop := (∀ x ∈ kd h, valid x = true) ∧ (Q ++ (kd h).filter isF).Nodup
open Classical in
noncomputable def bfsRun : Nat → List Nat → Nat → Option (List Nat)
  | 0, _, _ => none
  | n + 1, Q, p => if p < Q.length then (if rowGood kd isF valid Q (Q.getD p 0) then bfsRun n (Q ++ (kd (Q.getD p 0)).filter isF) (p + 1) else none) else some Q
variable {kd isF valid}
theorem bfs_end {n : Nat} {Q : List Nat} {p : Nat} (h : ¬ p < Q.length) : bfsRun kd isF valid (n + 1) Q p = some Q := by
  unfold bfsRun; rw [if_neg h]
theorem bfs_bad {n : Nat} {Q : List Nat} {p : Nat} (h : p < Q.length) (hb : ¬ rowGood kd isF valid Q (Q.getD p 0)) : bfsRun kd isF valid (n + 1) Q p = none := by
  unfold bfsRun; rw [if_pos h, if_neg hb]
theorem bfs_next {n : Nat} {Q : List Nat} {p : Nat} (h : p < Q.length) (hb : rowGood kd isF valid Q (Q.getD p 0)) : bfsRun kd isF valid (n + 1) Q p = bfsRun kd isF valid n (Q ++ (kd (Q.getD p 0)).filter isF) (p + 1) := by
  conv => lhs; unfold bfsRun
  rw [if_pos h, if_pos hb]
structure QI (kd : Nat → List Nat) (isF valid : Nat → Bool) (Q : List Nat) (p : Nat) : Prop where
  is : Q = 0 :: ((Q.take p).flatMap kd).filter isF
  nd : Q.Nodup
  ok : ∀ x ∈ (Q.take p).flatMap kd, valid x = true
  le : p ≤ Q.length
  par : ∀ i, i < Q.length → i = 0 ∨ ∃ j, j < i ∧ j < p ∧ Q.getD i 0 ∈ kd (Q.getD j 0)
theorem QI.start : QI kd isF valid [0] 0 := ⟨rfl, by simp, fun x hx => (by cases hx), Nat.zero_le _, fun i hi => Or.inl (by simpa using hi)⟩
theorem JQ {A B : List Nat} {i : Nat} (h : i < A.length) : (A ++ B).getD i 0 = A.getD i 0 := by
  rw [List.getD_eq_getElem?_getD, List.getD_eq_getElem?_getD, List.getElem?_append_left h]
theorem take_snocN {l : List Nat} {k : Nat} (h : k < l.length) : l.take (k + 1) = l.take k ++ [l.getD k 0] := by
  rw [List.take_succ_eq_append_getElem h, List.getD_eq_getElem?_getD, List.getElem?_eq_getElem h]; rfl
theorem QI.step {Q : List Nat} {p : Nat} (h : QI kd isF valid Q p) (hp : p < Q.length) (hb : rowGood kd isF valid Q (Q.getD p 0)) : QI kd isF valid (Q ++ (kd (Q.getD p 0)).filter isF) (p + 1) := by
  have e1 : (Q ++ (kd (Q.getD p 0)).filter isF).take (p + 1) = Q.take p ++ [Q.getD p 0] := by
    rw [List.take_append_of_le_length (by omega), take_snocN hp]
  have e2 : ((Q ++ (kd (Q.getD p 0)).filter isF).take (p + 1)).flatMap kd = (Q.take p).flatMap kd ++ kd (Q.getD p 0) := by
    rw [e1, List.flatMap_append]; simp
  refine ⟨?_, hb.2, fun x hx => ?_, by rw [List.length_append]; omega, fun i hi => ?_⟩
  · rw [e2, List.filter_append, ← List.cons_append, ← h.is]
  · rw [e2] at hx
    rcases List.mem_append.1 hx with hx | hx
    · exact h.ok x hx
    · exact hb.1 x hx
  · by_cases hi2 : i < Q.length
    · rcases h.par i hi2 with h0 | ⟨j, h1, h2, h3⟩
      · exact .inl h0
      · refine .inr ⟨j, h1, by omega, ?_⟩
        rw [JQ hi2, JQ (by omega)]; exact h3
    · refine .inr ⟨p, by omega, by omega, ?_⟩
      rw [JQ hp];have hm : (Q ++ (kd (Q.getD p 0)).filter isF).getD i 0 ∈ (kd (Q.getD p 0)).filter isF := by
        generalize (kd (Q.getD p 0)).filter isF = R at hi ⊢;rw [List.length_append] at hi;rw [List.getD_eq_getElem?_getD, List.getElem?_append_right (by omega), List.getElem?_eq_getElem (by omega)];exact List.getElem_mem _
      exact (List.mem_filter.1 hm).1
theorem bfs_is : ∀ {n : Nat} {Q Q' : List Nat} {p : Nat}, QI kd isF valid Q p → bfsRun kd isF valid n Q p = some Q' → QI kd isF valid Q' Q'.length
  | 0, Q, Q', p, h, hr => by cases hr
  | n + 1, Q, Q', p, h, hr => by
    by_cases hp : p < Q.length
    · by_cases hb : rowGood kd isF valid Q (Q.getD p 0)
      · rw [bfs_next hp hb] at hr
        exact bfs_is (h.step hp hb) hr
      · rw [bfs_bad hp hb] at hr; cases hr
    · rw [bfs_end hp] at hr
      obtain rfl := Option.some.inj hr;rw [show p = Q.length from Nat.le_antisymm h.le (by omega)] at h;exact h
theorem ZkG (l : List Nat) (m : Nat) : l.length = (l.filter fun x => x != m).length + l.count m := by
  induction l with
  | nil => rfl
  | cons x r ih =>
    by_cases h : x = m
    · subst h; rw [List.count_cons_self, List.filter_cons_of_neg (by simp), List.length_cons, ih]; omega
    · rw [List.count_cons_of_ne h, List.filter_cons_of_pos (by simpa using h), List.length_cons, List.length_cons, ih]; omega
theorem U6 (c : Nat) : ∀ {m : Nat} {l : List Nat}, (∀ x ∈ l, x < m) → (∀ x, l.count x ≤ c) → l.length ≤ m * c
  | 0, l, h, _ => by
    cases l with
    | nil => exact Nat.zero_le _
    | cons x r => exact absurd (h x (List.mem_cons_self ..)) (Nat.not_lt_zero _)
  | m + 1, l, h, hc => by
    have h1 := U6 c (m := m) (l := l.filter fun x => x != m) (fun x hx => by
      have := h x (List.mem_filter.1 hx).1;have h2 : x ≠ m := by simpa using (List.mem_filter.1 hx).2
      omega) (fun x => Nat.le_trans (List.Sublist.count_le x List.filter_sublist) (hc x))
    have h2 := hc m;rw [ZkG l m, Nat.succ_mul]; omega
theorem nodup_short {m : Nat} {l : List Nat} (hn : l.Nodup) (hb : ∀ x ∈ l, x < m) : l.length ≤ m := by
  have := U6 1 hb fun x => List.nodup_iff_count.1 hn x
  omega
theorem ZhS {m : Nat} (hgood : ∀ Q p, QI kd isF valid Q p → p < Q.length → rowGood kd isF valid Q (Q.getD p 0)) (hlt : ∀ Q p, QI kd isF valid Q p → Q.length ≤ m) : ∀ {n : Nat} {Q : List Nat} {p : Nat}, QI kd isF valid Q p → m + 1 ≤ n + p → ∃ Q', bfsRun kd isF valid n Q p = some Q'
  | 0, Q, p, h, hn => by have := hlt Q p h; have := h.le; omega
  | n + 1, Q, p, h, hn => by
    by_cases hp : p < Q.length
    · have hb := hgood Q p h hp
      rw [bfs_next hp hb];exact ZhS hgood hlt (h.step hp hb) (by omega)
    · exact ⟨Q, bfs_end hp⟩
end
section
variable {α : Type}
def catO {β γ : Type} (g : β → Option (List γ)) : List β → Option (List γ)
  | [] => some []
  | e :: r => (g e).bind fun a => (catO g r).map (a ++ ·)
theorem ZkH {β γ : Type} {g : β → Option (List γ)} : ∀ {l : List β} {x : List γ}, catO g l = some x → ∃ h : β → List γ, (∀ e ∈ l, g e = some (h e)) ∧ x = l.flatMap h
  | l, x, h => by
    have key : ∀ {l : List β} {x : List γ}, catO g l = some x → (∀ e ∈ l, g e = some ((g e).getD [])) ∧ x = l.flatMap fun e => (g e).getD [] := by
      intro l
      induction l with
      | nil => intro x h; obtain rfl := Option.some.inj h; exact ⟨fun e he => (by cases he), rfl⟩
      | cons e r ih =>
        intro x h;have h : ((g e).bind fun a => (catO g r).map (a ++ ·)) = some x := h
        cases hg : g e with
        | none => rw [hg] at h; cases h
        | some a =>
          cases hr : catO g r with
          | none => rw [hg, hr] at h; cases h
          | some y =>
            rw [hg, hr] at h;obtain rfl := Option.some.inj h;obtain ⟨h1, h2⟩ := ih hr;refine ⟨fun e' he' => ?_, ?_⟩
            · rcases List.mem_cons.1 he' with rfl | he'
              · rw [hg]; rfl
              · exact h1 e' he'
            · rw [List.flatMap_cons, hg, h2]; rfl
    exact ⟨_, (key h).1, (key h).2⟩
theorem Zj0 {β γ : Type} {g : β → Option (List γ)} {h : β → List γ} : ∀ {l : List β}, (∀ e ∈ l, g e = some (h e)) → catO g l = some (l.flatMap h)
  | [], _ => rfl
  | e :: r, hl => by
    show ((g e).bind fun a => (catO g r).map (a ++ ·)) = _;rw [hl e (List.mem_cons_self ..), Zj0 fun x hx => hl x (List.mem_cons_of_mem _ hx)]; rfl
variable (ch : α → List α)
def dfs : Nat → α → Option (List α)
  | 0, _ => none
  | n + 1, a => (catO (dfs n) (ch a)).map (a :: ·)
variable {ch}
theorem Zi9 {n : Nat} {a : α} {L : List α} (h : dfs ch (n + 1) a = some L) : ∃ g : α → List α, (∀ e ∈ ch a, dfs ch n e = some (g e)) ∧ L = a :: (ch a).flatMap g := by
  have h : (catO (dfs ch n) (ch a)).map (a :: ·) = some L := h
  cases hc : catO (dfs ch n) (ch a) with
  | none => rw [hc] at h; cases h
  | some x =>
    rw [hc] at h;obtain rfl := Option.some.inj h;obtain ⟨g, h1, h2⟩ := ZkH hc;exact ⟨g, h1, by rw [h2]⟩
theorem dfs_of {n : Nat} {a : α} {g : α → List α} (h : ∀ e ∈ ch a, dfs ch n e = some (g e)) : dfs ch (n + 1) a = some (a :: (ch a).flatMap g) := by
  show (catO (dfs ch n) (ch a)).map (a :: ·) = _;rw [Zj0 h]; rfl
theorem Zja : ∀ {n m : Nat} {a : α} {L : List α}, n ≤ m → dfs ch n a = some L → dfs ch m a = some L
  | 0, m, a, L, _, h => by cases h
  | n + 1, 0, a, L, hm, h => by omega
  | n + 1, m + 1, a, L, hm, h => by
    obtain ⟨g, h1, rfl⟩ := Zi9 h;exact dfs_of fun e he => Zja (by omega) (h1 e he)
theorem dfs_one {n m : Nat} {a : α} {L K : List α} (h : dfs ch n a = some L) (k : dfs ch m a = some K) : L = K := by
  have h1 := Zja (Nat.le_max_left n m) h;have h2 := Zja (Nat.le_max_right n m) k;exact Option.some.inj (h1.symm.trans h2)
theorem ZkI {β : Type} {l : List α} {f g : α → List β} (h : ∀ e ∈ l, (f e).Perm (g e)) : (l.flatMap f).Perm (l.flatMap g) := by
  induction l with
  | nil => exact List.Perm.refl _
  | cons e r ih =>
    rw [List.flatMap_cons, List.flatMap_cons];exact (h e (List.mem_cons_self ..)).append (ih fun x hx => h x (List.mem_cons_of_mem _ hx))
theorem Zee {l : List α} {f : α → List α} : (l.flatMap fun e => e :: f e).Perm (l ++ l.flatMap f) := by
  induction l with
  | nil => exact List.Perm.refl _
  | cons e r ih =>
    rw [List.flatMap_cons, List.flatMap_cons, List.cons_append, List.cons_append];refine List.Perm.cons _ ((ih.append_left (f e)).trans ?_);rw [← List.append_assoc, ← List.append_assoc];exact List.perm_append_comm.append_right _
theorem Zbd : ∀ {n : Nat} {a : α} {L : List α}, dfs ch n a = some L → L.Perm (a :: L.flatMap ch)
  | 0, a, L, h => by cases h
  | n + 1, a, L, h => by
    obtain ⟨g, h1, rfl⟩ := Zi9 h;refine List.Perm.cons _ ?_;rw [List.flatMap_cons, List.flatMap_assoc];have e1 : ((ch a).flatMap g).Perm ((ch a).flatMap fun e => e :: (g e).flatMap ch) := ZkI fun e he => Zbd (h1 e he)
    exact e1.trans Zee
theorem dfs_head {n : Nat} {a : α} {L : List α} (h : dfs ch n a = some L) : a ∈ L := (Zbd h).mem_iff.2 (List.mem_cons_self ..)
theorem dfs_below {n : Nat} {a : α} {L : List α} (h : dfs ch n a = some L) {x y : α} (hx : x ∈ L) (hy : y ∈ ch x) : y ∈ L := (Zbd h).mem_iff.2 (List.mem_cons_of_mem _ (List.mem_flatMap.2 ⟨x, hx, hy⟩))
theorem dfs_all (S : α → Prop) (hS : ∀ x y, S x → y ∈ ch x → S y) : ∀ {n : Nat} {a : α} {L : List α}, dfs ch n a = some L → S a → ∀ x ∈ L, S x
  | 0, a, L, h, _ => by cases h
  | n + 1, a, L, h, ha => by
    obtain ⟨g, h1, rfl⟩ := Zi9 h;intro x hx;rcases List.mem_cons.1 hx with rfl | hx
    · exact ha
    · obtain ⟨e, he, hx⟩ := List.mem_flatMap.1 hx
      exact dfs_all S hS (h1 e he) (hS a e ha he) x hx
theorem ZhT (S : α → Prop) (hS : ∀ x y, S x → y ∈ ch x → S y) (rk : α → Nat) (hrk : ∀ x y, S x → y ∈ ch x → rk y < rk x) : ∀ (n : Nat) (a : α), S a → rk a < n → ∃ L, dfs ch n a = some L
  | 0, a, _, h => by omega
  | n + 1, a, ha, h => by
    have hx : ∀ e ∈ ch a, dfs ch n e = some ((dfs ch n e).getD []) := fun e he => by
      obtain ⟨L, hL⟩ := ZhT S hS rk hrk n e (hS a e ha he) (by have := hrk a e ha he; omega);rw [hL]; rfl
    exact ⟨_, dfs_of hx⟩
end
theorem U7 {kd : Nat → List Nat} {f g : Nat} : ∀ {l : List Nat}, (∀ x ∈ l, x ≠ g → (kd x).count f = 0) → (kd g).count f = 1 → (l.flatMap kd).count f = l.count g
  | [], _, _ => rfl
  | x :: r, h, h1 => by
    have ih := U7 (l := r) (fun y hy => h y (List.mem_cons_of_mem _ hy)) h1;rw [List.flatMap_cons, List.count_append, ih]
    by_cases hx : x = g
    · subst hx; rw [h1, List.count_cons_self]; omega
    · rw [h x (List.mem_cons_self ..) hx, List.count_cons_of_ne hx]; omega
theorem ZhU {kd : Nat → List Nat} {k : Nat} : ∀ {A B : List Nat}, A.Nodup → (∀ x ∈ A, x ∈ B) → (A.flatMap kd).count k ≤ (B.flatMap kd).count k
  | [], B, _, _ => Nat.zero_le _
  | a :: A, B, hn, h => by
    have hb := List.perm_cons_erase (h a (List.mem_cons_self ..));rw [(hb.flatMap_right kd).count_eq k, List.flatMap_cons, List.flatMap_cons, List.count_append, List.count_append];have hn2 := List.nodup_cons.1 hn;have := ZhU (kd := kd) (k := k) (A := A) (B := B.erase a) hn2.2 fun x hx => by
      have hne : x ≠ a := fun e => hn2.1 (e ▸ hx)
      exact (List.mem_erase_of_ne hne).2 (h x (List.mem_cons_of_mem _ hx))
    omega
theorem JF {kd : Nat → List Nat} {isF : Nat → Bool} (hk : ∀ k, isF k = false → kd k = []) : ∀ l : List Nat, l.flatMap kd = (l.filter isF).flatMap kd
  | [] => rfl
  | x :: r => by
    cases hx : isF x with
    | true => rw [List.filter_cons_of_pos hx, List.flatMap_cons, List.flatMap_cons, JF hk r]
    | false => rw [List.filter_cons_of_neg (by rw [hx]; simp), List.flatMap_cons, hk x hx, List.nil_append, JF hk r]
structure Base (kd : Nat → List Nat) (isF valid : Nat → Bool) (lk : Nat → Nat) : Prop where
  v0 : valid 0 = true
  f0 : isF 0 = true
  fv : ∀ k, isF k = true → valid k = true
  lt : ∀ k, valid k = true → k < 16
  l9 : ∀ k, valid k = true → lk k ≤ 9
  l1 : ∀ k, isF k = true → lk k = 1
  no : ∀ k, isF k = false → kd k = []
  z : ∀ k, 0 ∉ kd k
section
variable {α : Type} {id : α → Nat} {ch : α → List α} {kd : Nat → List Nat} {isF valid : Nat → Bool} {lk : Nat → Nat}
theorem YA {l : List Nat} {i : Nat} (h : i < l.length) : l.getD i 0 ∈ l := by
  rw [List.getD_eq_getElem?_getD, List.getElem?_eq_getElem h]; exact List.getElem_mem _
theorem ZhV {l : List Nat} {x : Nat} (h : x ∈ l) : ∃ i, i < l.length ∧ l.getD i 0 = x := by
  obtain ⟨i, hi, rfl⟩ := List.getElem_of_mem h;exact ⟨i, hi, by rw [List.getD_eq_getElem?_getD, List.getElem?_eq_getElem hi]; rfl⟩
theorem Zjb {l : List Nat} (hn : l.Nodup) {i j : Nat} (hi : i < l.length) (hj : j < l.length) (h : l.getD i 0 = l.getD j 0) : i = j := by
  rw [List.getD_eq_getElem?_getD, List.getElem?_eq_getElem hi, List.getD_eq_getElem?_getD, List.getElem?_eq_getElem hj] at h;exact (List.getElem_inj hn).1 h
theorem ZhW (hk : ∀ a, (ch a).map id = kd (id a)) : ∀ l : List α, (l.flatMap ch).map id = (l.map id).flatMap kd
  | [] => rfl
  | a :: r => by rw [List.flatMap_cons, List.map_append, List.map_cons, List.flatMap_cons, hk a, ZhW hk r]
theorem QI.allF {Q : List Nat} {p : Nat} (B : Base kd isF valid lk) (h : QI kd isF valid Q p) : ∀ x ∈ Q, isF x = true := by
  intro x hx;rw [h.is] at hx;rcases List.mem_cons.1 hx with rfl | hx
  · exact B.f0
  · exact (List.mem_filter.1 hx).2
theorem QI.head {Q : List Nat} {p : Nat} (h : QI kd isF valid Q p) : 0 < Q.length ∧ Q.getD 0 0 = 0 := by
  have := h.is;generalize ((Q.take p).flatMap kd).filter isF = R at this;subst this;exact ⟨by simp, rfl⟩
theorem Zef {Q : List Nat} {f g x : Nat} (h1 : (Q.flatMap kd).count f = 1) (hg : g ∈ Q) (hx : x ∈ Q) (hfg : f ∈ kd g) (hne : x ≠ g) : (kd x).count f = 0 ∧ (kd g).count f = 1 := by
  have hb := List.perm_cons_erase hg;have hx2 : x ∈ Q.erase g := (List.mem_erase_of_ne hne).2 hx;have hb2 := List.perm_cons_erase hx2;have e : (Q.flatMap kd).count f = (kd g).count f + ((kd x).count f + (((Q.erase g).erase x).flatMap kd).count f) := by
    rw [(hb.flatMap_right kd).count_eq f, List.flatMap_cons, List.count_append, (hb2.flatMap_right kd).count_eq f, List.flatMap_cons, List.count_append]
  have := List.count_pos_iff.2 hfg
  omega
theorem Zjc {Q : List Nat} {f g : Nat} (h1 : (Q.flatMap kd).count f = 1) (hg : g ∈ Q) (hfg : f ∈ kd g) : (kd g).count f = 1 := by
  have hb := List.perm_cons_erase hg;have e : (Q.flatMap kd).count f = (kd g).count f + ((Q.erase g).flatMap kd).count f := by
    rw [(hb.flatMap_right kd).count_eq f, List.flatMap_cons, List.count_append]
  have := List.count_pos_iff.2 hfg
  omega
theorem Zj1 (hk : ∀ a, (ch a).map id = kd (id a)) {n : Nat} {a : α} {L : List α} (h : dfs ch n a = some L) : (L.map id).Perm (id a :: (L.map id).flatMap kd) := by
  have := (Zbd h).map id
  rwa [List.map_cons, ZhW hk] at this
theorem QS {isF : Nat → Bool} {k : Nat} (l : List Nat) : (l.filter isF).count k = if isF k = true then l.count k else 0 := by
  by_cases h : isF k = true
  · rw [if_pos h, List.count_filter h]
  · rw [if_neg h, List.count_eq_zero]
    exact fun hm => h (List.mem_filter.1 hm).2
theorem link_to (B : Base kd isF valid lk) (hk : ∀ a, (ch a).map id = kd (id a)) {Q : List Nat} (hQ : QI kd isF valid Q Q.length) (hc : ∀ k, valid k = true → k ≠ 0 → (Q.flatMap kd).count k = lk k) {a : α} (ha : id a = 0) :
    ∃ L, dfs ch 17 a = some L ∧ (∀ x ∈ L, valid (id x) = true) ∧ L.length ≤ 144 ∧ ∀ k, valid k = true → (L.map id).count k = lk k := by
  have hQF := hQ.allF B;have hqk : ∀ x y, x ∈ Q → y ∈ kd x → isF y = true → y ∈ Q := fun x y hx hy hf => by
    have e := hQ.is;rw [List.take_length] at e;rw [e];exact List.mem_cons_of_mem _ (List.mem_filter.2 ⟨List.mem_flatMap.2 ⟨x, hx, hy⟩, hf⟩)
  have hF1 : ∀ f, f ∈ Q → f ≠ 0 → (Q.flatMap kd).count f = 1 := fun f hf h0 => by rw [hc f (B.fv f (hQF f hf)) h0, B.l1 f (hQF f hf)]
  have hkid : ∀ x y : α, y ∈ ch x → id y ∈ kd (id x) := fun x y hy => by rw [← hk x]; exact List.mem_map.2 ⟨y, hy, rfl⟩
  have hkF : ∀ x y, y ∈ kd x → isF x = true := fun x y hy => by
    cases hx : isF x with
    | true => rfl
    | false => rw [B.no x hx] at hy; cases hy
  let S : α → Prop := fun x => isF (id x) = true → id x ∈ Q
  have hS : ∀ x y, S x → y ∈ ch x → S y := fun x y hx hy hf => hqk _ _ (hx (hkF _ _ (hkid x y hy))) (hkid x y hy) hf
  have h0Q : 0 ∈ Q := by have := hQ.head; rw [← this.2]; exact YA this.1
  have hSa : S a := fun _ => by rw [ha]; exact h0Q
  -- the place of the parent
  have hplace : ∀ i, i < Q.length → i ≠ 0 → ∃ j, j < i ∧ Q.getD i 0 ∈ kd (Q.getD j 0) := fun i hi h0 => by
    rcases hQ.par i hi with h | ⟨j, h1, _, h3⟩
    · exact absurd h h0
    · exact ⟨j, h1, h3⟩
  have hrank : ∀ i m, i < Q.length → m < Q.length → Q.getD m 0 ∈ kd (Q.getD i 0) → i < m := fun i m hi hm hmem => by
    have hm0 : m ≠ 0 := fun e => by rw [e, hQ.head.2] at hmem; exact B.z _ hmem
    obtain ⟨j, hj, hjm⟩ := hplace m hm hm0
    by_cases hij : Q.getD i 0 = Q.getD j 0
    · rw [Zjb hQ.nd hi (by omega) hij]; exact hj
    · have hne : Q.getD m 0 ≠ 0 := fun e => by rw [e] at hmem; exact B.z _ hmem
      have := (Zef (hF1 _ (YA hm) hne) (YA (show j < Q.length by omega)) (YA hi) hjm hij).1;exact absurd hmem (List.count_eq_zero.1 this)
  let rk : α → Nat := fun x => if isF (id x) = true then Q.length - Q.idxOf (id x) else 0
  have hidx : ∀ x ∈ Q, Q.idxOf x < Q.length ∧ Q.getD (Q.idxOf x) 0 = x := fun x hx => by
    have h1 := List.idxOf_lt_length_iff.2 hx;exact ⟨h1, by rw [List.getD_eq_getElem?_getD, List.getElem?_eq_getElem h1, Option.getD_some, List.getElem_idxOf]⟩
  have hrk : ∀ x y, S x → y ∈ ch x → rk y < rk x := fun x y hx hy => by
    have hxF := hkF _ _ (hkid x y hy);have hxQ := hx hxF;obtain ⟨i1, i2⟩ := hidx _ hxQ;show (if isF (id y) = true then _ else _) < (if isF (id x) = true then _ else _);rw [if_pos hxF]
    by_cases hyF : isF (id y) = true
    · rw [if_pos hyF]
      obtain ⟨j1, j2⟩ := hidx _ (hqk _ _ hxQ (hkid x y hy) hyF);have := hrank _ _ i1 j1 (by rw [i2, j2]; exact hkid x y hy)
      omega
    · rw [if_neg hyF]; omega
  have hQ16 : Q.length ≤ 16 := nodup_short hQ.nd fun x hx => B.lt x (B.fv x (hQF x hx))
  obtain ⟨L, hL⟩ := ZhT S hS rk hrk 17 a hSa (by show (if isF (id a) = true then Q.length - Q.idxOf (id a) else 0) < 17; have := Nat.sub_le Q.length (Q.idxOf (id a)); split <;> omega);have hp := Zj1 hk hL;rw [ha] at hp;have hSL := dfs_all S hS hL hSa;have hLk : ∀ x ∈ L.map id, isF x = true → x ∈ Q := fun x hx hf => by
    obtain ⟨y, hy, rfl⟩ := List.mem_map.1 hx;exact hSL y hy hf
  have hz : ∀ l : List Nat, (l.flatMap kd).count 0 = 0 := fun l => List.count_eq_zero.2 fun hm => by
    obtain ⟨x, _, hx⟩ := List.mem_flatMap.1 hm;exact B.z x hx
  have hfold : ∀ i, i < Q.length → (L.map id).count (Q.getD i 0) = 1 := fun i => by
    induction i using Nat.strongRecOn with
    | ind i ih =>
      intro hi
      by_cases h0 : i = 0
      · rw [h0, hQ.head.2, hp.count_eq, List.count_cons_self, hz]
      · obtain ⟨j, hj, hjm⟩ := hplace i hi h0
        have hne : Q.getD i 0 ≠ 0 := fun e => by rw [e] at hjm; exact B.z _ hjm
        have h1 := hF1 _ (YA hi) hne;have hgQ := YA (l := Q) (show j < Q.length by omega);rw [hp.count_eq, List.count_cons_of_ne (Ne.symm hne), ← ih j hj (by omega)];refine U7 (fun x hx hxg => ?_) (Zjc h1 hgQ hjm)
        cases hxF : isF x with
        | false => rw [B.no x hxF]; rfl
        | true => exact (Zef h1 hgQ (hLk x hx hxF) hjm hxg).1
  have hperm : ((L.map id).filter isF).Perm Q := by
    refine List.perm_iff_count.2 fun k => ?_;rw [QS]
    by_cases hf : isF k = true
    · rw [if_pos hf]
      by_cases hkQ : k ∈ Q
      · obtain ⟨i, hi, rfl⟩ := ZhV hkQ
        rw [hfold i hi];have h1 := List.nodup_iff_count.1 hQ.nd (Q.getD i 0);have h2 := List.count_pos_iff.2 hkQ
        omega
      · rw [List.count_eq_zero.2 hkQ, List.count_eq_zero.2 fun hm => hkQ (hLk k hm hf)]
    · rw [if_neg hf]
      exact (List.count_eq_zero.2 fun hm => hf (hQF k hm)).symm
  have hflat : ((L.map id).flatMap kd).Perm (Q.flatMap kd) := by
    rw [JF B.no]; exact hperm.flatMap_right kd
  have hcount : ∀ k, valid k = true → (L.map id).count k = lk k := fun k hv => by
    rw [hp.count_eq]
    by_cases h0 : k = 0
    · rw [h0, List.count_cons_self, hz, B.l1 0 B.f0]
    · rw [List.count_cons_of_ne (Ne.symm h0), hflat.count_eq, hc k hv h0]
  have hval : ∀ x ∈ L.map id, valid x = true := fun x hx => by
    rcases List.mem_cons.1 (hp.mem_iff.1 hx) with rfl | hx
    · exact B.v0
    · have := hQ.ok x
      rw [List.take_length] at this;exact this (hflat.mem_iff.1 hx)
  refine ⟨L, hL, fun x hx => hval _ (List.mem_map.2 ⟨x, hx, rfl⟩), ?_, hcount⟩;have := U6 (m := 16) 9 (l := L.map id) (fun x hx => B.lt x (hval x hx)) fun x => by
    by_cases hv : valid x = true
    · rw [hcount x hv]; exact B.l9 x hv
    · rw [List.count_eq_zero.2 fun hm => hv (hval x hm)]; exact Nat.zero_le _
  rw [List.length_map] at this
  omega
theorem link_of (B : Base kd isF valid lk) (hk : ∀ a, (ch a).map id = kd (id a)) {n : Nat} {a : α} {L : List α} (ha : id a = 0) (hL : dfs ch n a = some L) (hv : ∀ x ∈ L, valid (id x) = true) (hc : ∀ k, valid k = true → (L.map id).count k = lk k) :
    ∃ Q, bfsRun kd isF valid 17 [0] 0 = some Q ∧ ∀ k, valid k = true → k ≠ 0 → (Q.flatMap kd).count k = lk k := by
  have hp := Zj1 hk hL;rw [ha] at hp;have h0 : 0 ∈ L.map id := hp.mem_iff.2 (List.mem_cons_self ..);have hbel : ∀ x y, x ∈ L.map id → y ∈ kd x → y ∈ L.map id := fun x y hx hy => hp.mem_iff.2 (List.mem_cons_of_mem _ (List.mem_flatMap.2 ⟨x, hx, hy⟩))
  have hval : ∀ x ∈ L.map id, valid x = true := fun x hx => by
    obtain ⟨y, hy, rfl⟩ := List.mem_map.1 hx;exact hv y hy
  have hz : ∀ l : List Nat, (l.flatMap kd).count 0 = 0 := fun l => List.count_eq_zero.2 fun hm => by
    obtain ⟨x, _, hx⟩ := List.mem_flatMap.1 hm;exact B.z x hx
  have hsub : ∀ {Q : List Nat} {p : Nat}, QI kd isF valid Q p → ∀ x ∈ Q, x ∈ L.map id := fun {Q p} h => by
    have key : ∀ i, i < Q.length → Q.getD i 0 ∈ L.map id := fun i => by
      induction i using Nat.strongRecOn with
      | ind i ih =>
        intro hi;rcases h.par i hi with e | ⟨j, h1, _, h3⟩
        · rw [e, h.head.2]; exact h0
        · exact hbel _ _ (ih j h1 (by omega)) h3
    intro x hx;obtain ⟨i, hi, rfl⟩ := ZhV hx;exact key i hi
  have hgood : ∀ Q p, QI kd isF valid Q p → p < Q.length → rowGood kd isF valid Q (Q.getD p 0) := fun Q p h hlt => by
    refine ⟨fun x hx => hval x (hbel _ _ (hsub h _ (YA hlt)) hx), ?_⟩;have e : Q ++ (kd (Q.getD p 0)).filter isF = 0 :: ((Q.take (p + 1)).flatMap kd).filter isF := by
      rw [take_snocN hlt, List.flatMap_append, List.filter_append, ← List.cons_append, ← h.is]; simp
    rw [e, List.nodup_iff_count];intro k
    by_cases hk0 : k = 0
    · rw [hk0, List.count_cons_self, QS]
      split
      · rw [hz]; exact Nat.le_refl _
      · exact Nat.le_refl _
    · rw [List.count_cons_of_ne (Ne.symm hk0), QS]
      split
      · rename_i hf
        have h1 := ZhU (kd := kd) (k := k) (A := Q.take (p + 1)) (B := L.map id) (h.nd.sublist (List.take_sublist _ _)) fun x hx => hsub h x (List.mem_of_mem_take hx)
        have h2 := hc k (B.fv k hf);rw [hp.count_eq, List.count_cons_of_ne (Ne.symm hk0), B.l1 k hf] at h2
        omega
      · exact Nat.zero_le _
  have hlt : ∀ Q p, QI kd isF valid Q p → Q.length ≤ 16 := fun Q p h => nodup_short h.nd fun x hx => B.lt x (hval x (hsub h x hx))
  obtain ⟨Q, hQ⟩ := ZhS hgood hlt (n := 17) (QI.start (kd := kd) (isF := isF) (valid := valid)) (by omega);refine ⟨Q, hQ, fun k hvk hk0 => ?_⟩;have hI := bfs_is QI.start hQ;have hqk : ∀ x y, x ∈ Q → y ∈ kd x → isF y = true → y ∈ Q := fun x y hx hy hf => by
    have e := hI.is;rw [List.take_length] at e;rw [e];exact List.mem_cons_of_mem _ (List.mem_filter.2 ⟨List.mem_flatMap.2 ⟨x, hx, hy⟩, hf⟩)
  have hkid : ∀ x y : α, y ∈ ch x → id y ∈ kd (id x) := fun x y hy => by rw [← hk x]; exact List.mem_map.2 ⟨y, hy, rfl⟩
  have hkF : ∀ x y, y ∈ kd x → isF x = true := fun x y hy => by
    cases hx : isF x with
    | true => rfl
    | false => rw [B.no x hx] at hy; cases hy
  have hall := dfs_all (fun x => isF (id x) = true → id x ∈ Q) (fun x y hx hy hf => hqk _ _ (hx (hkF _ _ (hkid x y hy))) (hkid x y hy) hf) hL (fun _ => by
    have := hI.head;rw [ha, ← this.2]; exact YA this.1)
  have hperm : ((L.map id).filter isF).Perm Q := by
    refine List.perm_iff_count.2 fun k => ?_;rw [QS]
    by_cases hf : isF k = true
    · rw [if_pos hf, hc k (B.fv k hf), B.l1 k hf]
      have hm : k ∈ L.map id := List.count_pos_iff.1 (by rw [hc k (B.fv k hf), B.l1 k hf]; exact Nat.one_pos);obtain ⟨y, hy, rfl⟩ := List.mem_map.1 hm;have h1 := List.nodup_iff_count.1 hI.nd (id y);have h2 := List.count_pos_iff.2 (hall y hy hf)
      omega
    · rw [if_neg hf]
      exact (List.count_eq_zero.2 fun hm => hf (hI.allF B k hm)).symm
  rw [← (hperm.flatMap_right kd).count_eq, ← JF B.no];have := hc k hvk;rw [hp.count_eq, List.count_cons_of_ne (Ne.symm hk0)] at this;exact this
end
end Go.Proofs.YtigjfacaofgjjaaGreatDoor.LinkP
namespace Go.Proofs.YtigjfacaofgjjaaGreatDoor
set_option linter.unusedVariables false
set_option linter.unusedSimpArgs false
set_option maxHeartbeats 1000000
set_option maxRecDepth 100000
open Go.RowKit
structure Zi where
  fPath : ByteArray
  fId : Int
def Zi.cells (x : Zi) : List Value := [.string x.fPath, .int .i64 x.fId]
theorem Zi.cells_len (x : Zi) : x.cells.length = 2 := rfl
theorem Zi.at_ {w : World} {b o : Nat} {x : Zi} (h : w.rangeAt b o x.cells) :
    w.cell? ⟨b, o, none⟩ = some (.string x.fPath) ∧ w.cell? ⟨b, o + 1, none⟩ = some (.int .i64 x.fId) :=
  ⟨h 0 _ rfl, h 1 _ rfl⟩
def Zi.bulk (x : Zi) : Nat := x.fPath.size
structure U8 where
  fId : Int
  fFolder : Bool
  fText : ByteArray
def U8.cells (x : U8) : List Value := [.int .i64 x.fId, .bool x.fFolder, .string x.fText]
theorem U8.cells_len (x : U8) : x.cells.length = 3 := rfl
theorem U8.at_ {w : World} {b o : Nat} {x : U8} (h : w.rangeAt b o x.cells) :
    w.cell? ⟨b, o, none⟩ = some (.int .i64 x.fId) ∧ w.cell? ⟨b, o + 1, none⟩ = some (.bool x.fFolder) ∧ w.cell? ⟨b, o + 2, none⟩ = some (.string x.fText) :=
  ⟨h 0 _ rfl, h 1 _ rfl, h 2 _ rfl⟩
def U8.bulk (x : U8) : Nat := x.fText.size
open Go.RowKit
noncomputable def Qc (st : Za) (n : Zc) : Bool := bif n.fKind == 1 then (fileF st n).isSome else (dirF st n).isSome
noncomputable def ZK (st : Za) (ns : List (Option Zc)) (k : Nat) : List Zb := match ns.getD k none with
  | none => []
  | some n => bif n.fKind == 1 then [] else (dirF st n).getD []
noncomputable def kdN (st : Za) (ns : List (Option Zc)) (k : Nat) : List Nat := (ZK st ns k).map fun e => e.fId.toNat
def YE (ns : List (Option Zc)) (k : Nat) : Bool := match ns.getD k none with
  | none => false
  | some n => !(n.fKind == 1)
def validN (ns : List (Option Zc)) (k : Nat) : Bool := (ns.getD k none).isSome
def lkN (ns : List (Option Zc)) (k : Nat) : Nat := match ns.getD k none with
  | none => 0
  | some n => n.fLinks.toNat
noncomputable def runN (st : Za) (ns : List (Option Zc)) : Option (List Nat) := LinkP.bfsRun (kdN st ns) (YE ns) (validN ns) 17 [0] 0
open Classical in
noncomputable def Jo (st : Za) (ns : List (Option Zc)) : Bool := match runN st ns with
  | none => false
  | some Q => decide (∀ k, k < ns.length → validN ns k = true → k ≠ 0 → (Q.flatMap (kdN st ns)).count k = lkN ns k)
open Classical in
noncomputable def U9 (st : Za) (ns : List (Option Zc)) : Bool := decide (∀ k n, ns.getD k none = some n → Qc st n = true)
noncomputable def Yc (st : Za) (ns : List (Option Zc)) : Bool := YE ns 0 && (U9 st ns && Jo st ns)
theorem Zal {st : Za} {ns : List (Option Zc)} (h : runN st ns = none) : Jo st ns = false := by unfold Jo; rw [h]
theorem Zmg {st : Za} {ns : List (Option Zc)} {Q : List Nat} (h : runN st ns = some Q) {k : Nat} (hk : k < ns.length) (hv : validN ns k = true) (h0 : k ≠ 0) (hc : (Q.flatMap (kdN st ns)).count k ≠ lkN ns k) : Jo st ns = false := by
  unfold Jo;simp only [h];exact decide_eq_false fun e => hc (e k hk hv h0)
theorem ZfU {st : Za} {ns : List (Option Zc)} {Q : List Nat} (h : runN st ns = some Q) (hc : ∀ k, k < ns.length → validN ns k = true → k ≠ 0 → (Q.flatMap (kdN st ns)).count k = lkN ns k) : Jo st ns = true := by
  unfold Jo;simp only [h];exact decide_eq_true hc
theorem ZhX {st : Za} {ns : List (Option Zc)} (h : Jo st ns = true) : ∃ Q, runN st ns = some Q ∧ ∀ k, k < ns.length → validN ns k = true → k ≠ 0 → (Q.flatMap (kdN st ns)).count k = lkN ns k := by
  cases hr : runN st ns with
  | none => rw [Zal hr] at h; cases h
  | some Q =>
    unfold Jo at h;simp only [hr] at h;exact ⟨Q, rfl, of_decide_eq_true h⟩
theorem Zeg {st : Za} {ns : List (Option Zc)} (h : U9 st ns = true) : ∀ k n, ns.getD k none = some n → Qc st n = true := by
  unfold U9 at h;exact @of_decide_eq_true _ (_) h
theorem ZhY {st : Za} {ns : List (Option Zc)} (h : ∀ k n, ns.getD k none = some n → Qc st n = true) : U9 st ns = true := by
  unfold U9;exact @decide_eq_true _ (_) h
theorem Zmh {st : Za} {ns : List (Option Zc)} {k : Nat} {n : Zc} (h : ns.getD k none = some n) (hb : Qc st n = false) : U9 st ns = false := by
  unfold U9;exact @decide_eq_false _ (_) fun e => by rw [e k n h] at hb; cases hb
theorem Uv {st : Za} {n : Zc} (h : (n.fKind == 1) = true) : Qc st n = (fileF st n).isSome := by unfold Qc; rw [h]; rfl
theorem Jb {st : Za} {n : Zc} (h : (n.fKind == 1) = false) : Qc st n = (dirF st n).isSome := by unfold Qc; rw [h]; rfl
theorem J7 {st : Za} {ns : List (Option Zc)} {k : Nat} (h : ns.getD k none = none) : ZK st ns k = [] := by unfold ZK; rw [h]
theorem J8 {st : Za} {ns : List (Option Zc)} {k : Nat} {n : Zc} (h : ns.getD k none = some n) (hf : (n.fKind == 1) = true) : ZK st ns k = [] := by unfold ZK; rw [h]; show (bif _ then _ else _) = _; rw [hf]; rfl
theorem Va {st : Za} {ns : List (Option Zc)} {k : Nat} {n : Zc} {es : List Zb} (h : ns.getD k none = some n) (hf : (n.fKind == 1) = false) (hd : dirF st n = some es) : ZK st ns k = es := by unfold ZK; rw [h]; show (bif _ then _ else _) = _; rw [hf, hd]; rfl
theorem ZkJ {ns : List (Option Zc)} {k : Nat} (h : ns.getD k none = none) : YE ns k = false := by unfold YE; rw [h]
theorem VP {ns : List (Option Zc)} {k : Nat} {n : Zc} (h : ns.getD k none = some n) : YE ns k = !(n.fKind == 1) := by unfold YE; rw [h]
theorem Zbe {ns : List (Option Zc)} {k : Nat} (h : YE ns k = true) : ∃ n, ns.getD k none = some n ∧ (n.fKind == 1) = false := by
  cases hn : ns.getD k none with
  | none => rw [ZkJ hn] at h; cases h
  | some n => rw [VP hn] at h; exact ⟨n, rfl, by simpa using h⟩
theorem Z5 {ns : List (Option Zc)} {k : Nat} {n : Zc} (h : ns.getD k none = some n) : validN ns k = true := by unfold validN; rw [h]; rfl
theorem JG {ns : List (Option Zc)} {k : Nat} (h : ns.getD k none = none) : validN ns k = false := by unfold validN; rw [h]; rfl
theorem Xo {ns : List (Option Zc)} {k : Nat} (h : validN ns k = true) : ∃ n, ns.getD k none = some n := Option.isSome_iff_exists.1 h
theorem Qd {ns : List (Option Zc)} {k : Nat} (h : validN ns k = true) : k < ns.length := by
  by_cases hk : k < ns.length
  · exact hk
  · unfold validN at h
    rw [List.getD_eq_getElem?_getD, List.getElem?_eq_none (by omega)] at h; cases h
theorem Vb {ns : List (Option Zc)} {k : Nat} {n : Zc} (h : ns.getD k none = some n) : lkN ns k = n.fLinks.toNat := by unfold lkN; rw [h]
theorem Qn {st : Za} {ns : List (Option Zc)} (k : Nat) : Z4 (ZK st ns k) = true := by
  cases hn : ns.getD k none with
  | none => rw [J7 hn]; exact J4 (fun i hi => absurd hi (Nat.not_lt_zero _)) (Nat.zero_le _)
  | some n =>
    cases hf : (n.fKind == 1) with
    | true => rw [J8 hn hf]; exact J4 (fun i hi => absurd hi (Nat.not_lt_zero _)) (Nat.zero_le _)
    | false =>
      cases hd : dirF st n with
      | some es => rw [Va hn hf hd]; exact Zdb hd
      | none =>
        unfold ZK; rw [hn]; show Z4 (bif _ then _ else _) = _; rw [hf, hd];exact J4 (fun i hi => absurd hi (Nat.not_lt_zero _)) (Nat.zero_le _)
structure Yo (ns : List (Option Zc)) : Prop where
  len : ns.length ≤ 16
  ok : ∀ k n, ns.getD k none = some n → n.ok = true
theorem X2 {st : Za} {t : Zo} {ns : List (Option Zc)} (h : tabF st t = some ns) : Yo ns := by
  obtain ⟨l, hl, ht, hlen⟩ := ZgG h;refine ⟨by have := XQ hl; omega, fun k n hk => ?_⟩;have hkl : k < l.length := by
    have := Qd (Z5 hk)
    omega
  have := Zc9 ht k hkl;rcases this with ⟨_, h2⟩ | ⟨_, m, h2, h3, _⟩
  · rw [hk] at h2; cases h2
  · rw [hk] at h2
    obtain rfl := Option.some.inj h2;exact (ZhG h3).1
theorem Zbf {st : Za} {ns : List (Option Zc)} (H : Yo ns) (h0 : YE ns 0 = true) : LinkP.Base (kdN st ns) (YE ns) (validN ns) (lkN ns) where
  v0 := by obtain ⟨n, h, _⟩ := Zbe h0; exact Z5 h
  f0 := h0
  fv k h := by obtain ⟨n, h, _⟩ := Zbe h; exact Z5 h
  lt k h := by have := Qd h; have := H.len; omega
  l9 k h := by
    obtain ⟨n, h⟩ := Xo h;rw [Vb h];have := (Zc.ok_is (H.ok k n h)).small.links
    omega
  l1 k h := by
    obtain ⟨n, h, hf⟩ := Zbe h;rw [Vb h];have ho := Zc.ok_is (H.ok k n h);have hk := ho.small.kind;have hl := ho.links;have h2 : n.fKind = 2 := by
      rcases hk with e | e
      · rw [e] at hf; cases hf
      · exact e
    rw [if_pos h2] at hl
    omega
  no k h := by
    unfold kdN
    cases hn : ns.getD k none with
    | none => rw [J7 hn]; rfl
    | some n =>
      rw [VP hn] at h;rw [J8 hn (by simpa using h)]; rfl
  z k h := by
    obtain ⟨e, he, h0⟩ := List.mem_map.1 h;have := (Yv (Qn (st := st) (ns := ns) k) he).2.1
    omega
def Zam (p s : ByteArray) : ByteArray := bif p.toList == slB.toList then slB ++ s else (p ++ slB) ++ s
noncomputable def chF (st : Za) (ns : List (Option Zc)) (a : Zi) : List Zi := (ZK st ns a.fId.toNat).map fun e => ⟨Zam a.fPath e.fName, e.fId⟩
def rootX : Zi := ⟨slB, 0⟩
theorem ZgH {st : Za} {ns : List (Option Zc)} (a : Zi) : (chF st ns a).map (fun x => x.fId.toNat) = kdN st ns a.fId.toNat := by
  unfold chF kdN; rw [List.map_map]; rfl
noncomputable def Zmi (st : Za) (ns : List (Option Zc)) : Option (List Zi) := LinkP.dfs (chF st ns) 17 rootX
noncomputable def Vc (st : Za) (ns : List (Option Zc)) : List Zi := (Zmi st ns).getD []
def Zb6 (g : Zi → List Zi → List Zi × Bool) : List Zi → List Zi → List Zi × Bool
  | [], out => (out, true)
  | c :: r, out => bif (g c out).2 then Zb6 g r (g c out).1 else ((g c out).1, false)
noncomputable def refW (st : Za) (ns : List (Option Zc)) : Nat → Zi → List Zi → List Zi × Bool
  | 0, _, out => (out, false)
  | m + 1, a, out => bif decide (144 < (out ++ [a]).length) || !validN ns a.fId.toNat || decide (a.fId < 0) then (out ++ [a], false)
    else match ns.getD a.fId.toNat none with
      | none => (out ++ [a], false)
      | some n => bif n.fKind == 1 then (out ++ [a], true) else match dirF st n with
        | none => (out ++ [a], false)
        | some _ => Zb6 (refW st ns m) (chF st ns a) (out ++ [a])
theorem Vd {st : Za} {ns : List (Option Zc)} {m : Nat} {a : Zi} {out : List Zi} (h : (144 < (out ++ [a]).length) ∨ validN ns a.fId.toNat = false ∨ a.fId < 0) : refW st ns (m + 1) a out = (out ++ [a], false) := by
  conv => lhs; unfold refW
  have : (decide (144 < (out ++ [a]).length) || !validN ns a.fId.toNat || decide (a.fId < 0)) = true := by
    rcases h with h | h | h
    · rw [decide_eq_true h]; rfl
    · rw [h]; simp
    · rw [decide_eq_true h]; simp
  rw [this]; rfl
theorem ZgI {st : Za} {ns : List (Option Zc)} {m : Nat} {a : Zi} {out : List Zi} {n : Zc} (h1 : (out ++ [a]).length ≤ 144) (h2 : ns.getD a.fId.toNat none = some n) (h3 : 0 ≤ a.fId) : refW st ns (m + 1) a out = bif n.fKind == 1 then (out ++ [a], true) else match dirF st n with
        | none => (out ++ [a], false)
        | some _ => Zb6 (refW st ns m) (chF st ns a) (out ++ [a]) := by
  conv => lhs; unfold refW
  have : (decide (144 < (out ++ [a]).length) || !validN ns a.fId.toNat || decide (a.fId < 0)) = false := by
    rw [decide_eq_false (by omega), Z5 h2, decide_eq_false (by omega)]; rfl
  rw [this, h2]; rfl
theorem VQ {st : Za} {ns : List (Option Zc)} {m : Nat} {a : Zi} {out : List Zi} {n : Zc} (h1 : (out ++ [a]).length ≤ 144) (h2 : ns.getD a.fId.toNat none = some n) (h3 : 0 ≤ a.fId) (hf : (n.fKind == 1) = true) : refW st ns (m + 1) a out = (out ++ [a], true) := by
  rw [ZgI h1 h2 h3, hf]; rfl
theorem Zan {st : Za} {ns : List (Option Zc)} {m : Nat} {a : Zi} {out : List Zi} {n : Zc} (h1 : (out ++ [a]).length ≤ 144) (h2 : ns.getD a.fId.toNat none = some n) (h3 : 0 ≤ a.fId) (hf : (n.fKind == 1) = false) (hd : dirF st n = none) : refW st ns (m + 1) a out = (out ++ [a], false) := by
  rw [ZgI h1 h2 h3, hf, hd]; rfl
theorem Zbg {st : Za} {ns : List (Option Zc)} {m : Nat} {a : Zi} {out : List Zi} {n : Zc} {es : List Zb} (h1 : (out ++ [a]).length ≤ 144) (h2 : ns.getD a.fId.toNat none = some n) (h3 : 0 ≤ a.fId) (hf : (n.fKind == 1) = false) (hd : dirF st n = some es) : refW st ns (m + 1) a out = Zb6 (refW st ns m) (chF st ns a) (out ++ [a]) := by
  rw [ZgI h1 h2 h3, hf, hd]; rfl
def Zeh (st : Za) (ns : List (Option Zc)) (x : Zi) : Prop := ∃ n, ns.getD x.fId.toNat none = some n ∧ ((n.fKind == 1) = true ∨ ∃ es, dirF st n = some es)
theorem Zei {st : Za} {ns : List (Option Zc)} {x : Zi} {n : Zc} (h : ns.getD x.fId.toNat none = some n) (hf : (n.fKind == 1) = true) : chF st ns x = [] := by
  unfold chF; rw [J8 h hf]; rfl
theorem Jc {st : Za} {ns : List (Option Zc)} : ∀ {m : Nat} {a : Zi} {out o : List Zi}, refW st ns m a out = (o, true) → ∃ L, LinkP.dfs (chF st ns) m a = some L ∧ o = out ++ L ∧ o.length ≤ 144 ∧ ∀ x ∈ L, Zeh st ns x
  | 0, a, out, o, h => by unfold refW at h; cases h
  | m + 1, a, out, o, h => by
    by_cases hb : (144 < (out ++ [a]).length) ∨ validN ns a.fId.toNat = false ∨ a.fId < 0
    · rw [Vd hb] at h; cases h
    · have h1 : (out ++ [a]).length ≤ 144 := by omega
      have hv : validN ns a.fId.toNat = true := by
        cases hv : validN ns a.fId.toNat with
        | true => rfl
        | false => exact absurd (.inr (.inl hv)) hb
      have h3 : 0 ≤ a.fId := by omega
      obtain ⟨n, hn⟩ := Xo hv
      cases hf : (n.fKind == 1) with
      | true =>
        rw [VQ h1 hn h3 hf] at h;obtain rfl := (Prod.mk.inj h).1;refine ⟨[a], ?_, rfl, h1, fun x hx => ?_⟩
        · have : LinkP.dfs (chF st ns) (m + 1) a = some (a :: (chF st ns a).flatMap fun _ => []) := LinkP.dfs_of fun e he => by rw [Zei hn hf] at he; cases he
          rw [this, Zei hn hf]; rfl
        · obtain rfl : x = a := by simpa using hx
          exact ⟨n, hn, .inl hf⟩
      | false =>
        cases hd : dirF st n with
        | none => rw [Zan h1 hn h3 hf hd] at h; cases h
        | some es =>
          rw [Zbg h1 hn h3 hf hd] at h;have key : ∀ (l : List Zi) (out o : List Zi), out.length ≤ 144 → Zb6 (refW st ns m) l out = (o, true) → ∃ L, LinkP.catO (LinkP.dfs (chF st ns) m) l = some L ∧ o = out ++ L ∧ o.length ≤ 144 ∧ ∀ x ∈ L, Zeh st ns x := by
            intro l
            induction l with
            | nil =>
              intro out o hl h;obtain rfl := (Prod.mk.inj h).1;exact ⟨[], rfl, by rw [List.append_nil], hl, fun x hx => by cases hx⟩
            | cons c r ih =>
              intro out o hl h;have h : (bif (refW st ns m c out).2 then Zb6 (refW st ns m) r (refW st ns m c out).1 else ((refW st ns m c out).1, false)) = (o, true) := h
              cases hg : (refW st ns m c out).2 with
              | false => rw [hg] at h; cases h
              | true =>
                rw [hg] at h;obtain ⟨L1, k1, k2, k3, k4⟩ := Jc (m := m) (a := c) (out := out) (o := (refW st ns m c out).1) (by rw [← hg]);obtain ⟨L2, j1, j2, j3, j4⟩ := ih _ _ k3 h;refine ⟨L1 ++ L2, ?_, by rw [j2, k2, List.append_assoc], j3, fun x hx => ?_⟩
                · show ((LinkP.dfs (chF st ns) m c).bind fun a => (LinkP.catO (LinkP.dfs (chF st ns) m) r).map (a ++ ·)) = _
                  rw [k1, j1]; rfl
                · rcases List.mem_append.1 hx with hx | hx
                  · exact k4 x hx
                  · exact j4 x hx
          obtain ⟨L, k1, k2, k3, k4⟩ := key _ _ _ h1 h;refine ⟨a :: L, ?_, by rw [k2, List.append_assoc]; rfl, k3, fun x hx => ?_⟩
          · show (LinkP.catO (LinkP.dfs (chF st ns) m) (chF st ns a)).map (a :: ·) = _
            rw [k1]; rfl
          · rcases List.mem_cons.1 hx with rfl | hx
            · exact ⟨n, hn, .inr ⟨es, hd⟩⟩
            · exact k4 x hx
theorem ZgJ {st : Za} {ns : List (Option Zc)} : ∀ {k m : Nat} {a : Zi} {out L : List Zi}, LinkP.dfs (chF st ns) k a = some L → (∀ x ∈ L, Zeh st ns x ∧ 0 ≤ x.fId) → out.length + L.length ≤ 144 → 145 ≤ m + out.length → refW st ns m a out = (out ++ L, true)
  | 0, m, a, out, L, h, _, _, _ => by cases h
  | k + 1, 0, a, out, L, h, _, hl, hm => by omega
  | k + 1, m + 1, a, out, L, h, hs, hl, hm => by
    have h : (LinkP.catO (LinkP.dfs (chF st ns) k) (chF st ns a)).map (a :: ·) = some L := h
    cases hc : LinkP.catO (LinkP.dfs (chF st ns) k) (chF st ns a) with
    | none => rw [hc] at h; cases h
    | some M =>
      rw [hc] at h;obtain rfl := Option.some.inj h;obtain ⟨⟨n, hn, hk⟩, h3⟩ := hs a (List.mem_cons_self ..);rw [List.length_cons] at hl;have h1 : (out ++ [a]).length ≤ 144 := by rw [List.length_append]; simp; omega
      cases hf : (n.fKind == 1) with
      | true =>
        rw [VQ h1 hn h3 hf];rw [Zei hn hf] at hc;obtain rfl := Option.some.inj hc
        rfl
      | false =>
        rw [hf] at hk;rcases hk with hk | ⟨es, hd⟩
        · cases hk
        · rw [Zbg h1 hn h3 hf hd]
          have key : ∀ (l : List Zi) (out M : List Zi), LinkP.catO (LinkP.dfs (chF st ns) k) l = some M → (∀ x ∈ M, Zeh st ns x ∧ 0 ≤ x.fId) → out.length + M.length ≤ 144 → 145 ≤ m + out.length → Zb6 (refW st ns m) l out = (out ++ M, true) := by
            intro l
            induction l with
            | nil =>
              intro out M hM _ _ _;obtain rfl := Option.some.inj hM;rw [List.append_nil]; rfl
            | cons c r ih =>
              intro out M hM hs hl hm;have hM : ((LinkP.dfs (chF st ns) k c).bind fun a => (LinkP.catO (LinkP.dfs (chF st ns) k) r).map (a ++ ·)) = some M := hM
              cases hd1 : LinkP.dfs (chF st ns) k c with
              | none => rw [hd1] at hM; cases hM
              | some L1 =>
                cases hd2 : LinkP.catO (LinkP.dfs (chF st ns) k) r with
                | none => rw [hd1, hd2] at hM; cases hM
                | some L2 =>
                  rw [hd1, hd2] at hM;obtain rfl := Option.some.inj hM;rw [List.length_append] at hl;have e := ZgJ (m := m) (out := out) hd1 (fun x hx => hs x (List.mem_append_left _ hx)) (by omega) hm;show (bif (refW st ns m c out).2 then Zb6 (refW st ns m) r (refW st ns m c out).1 else _) = _;rw [e];show Zb6 (refW st ns m) r (out ++ L1) = _;rw [ih _ _ hd2 (fun x hx => hs x (List.mem_append_right _ hx)) (by rw [List.length_append]; omega) (by rw [List.length_append]; omega), List.append_assoc]
          rw [key _ _ _ hc (fun x hx => hs x (List.mem_cons_of_mem _ hx)) (by rw [List.length_append]; simp; omega) (by rw [List.length_append]; simp; omega), List.append_assoc]
          rfl
open Classical in
noncomputable def X3 (st : Za) (ns : List (Option Zc)) : Option (List Zi) :=
  bif !YE ns 0 then none else bif !(refW st ns 145 rootX []).2 then none else
    if ∀ k n, ns.getD k none = some n → (((refW st ns 145 rootX []).1.map fun x => x.fId.toNat).count k : Int) = n.fLinks ∧ ((n.fKind == 1) = true → (fileF st n).isSome = true) then some (refW st ns 145 rootX []).1 else none
theorem Ve {st : Za} {ns : List (Option Zc)} (h : YE ns 0 = false) : X3 st ns = none := by unfold X3; rw [h]; rfl
theorem Vf {st : Za} {ns : List (Option Zc)} (h : (refW st ns 145 rootX []).2 = false) : X3 st ns = none := by unfold X3; rw [h]; cases YE ns 0 <;> rfl
theorem Vg {st : Za} {ns : List (Option Zc)} {k : Nat} {n : Zc} (h : ns.getD k none = some n) (hb : ¬ ((((refW st ns 145 rootX []).1.map fun x => x.fId.toNat).count k : Int) = n.fLinks ∧ ((n.fKind == 1) = true → (fileF st n).isSome = true))) : X3 st ns = none := by
  unfold X3;rw [if_neg fun e => hb (e k n h)]
  cases YE ns 0
  · rfl
  · cases (refW st ns 145 rootX []).2 <;> rfl
theorem Zej {st : Za} {ns : List (Option Zc)} (h0 : YE ns 0 = true) (h1 : (refW st ns 145 rootX []).2 = true) (h : ∀ k n, ns.getD k none = some n → (((refW st ns 145 rootX []).1.map fun x => x.fId.toNat).count k : Int) = n.fLinks ∧ ((n.fKind == 1) = true → (fileF st n).isSome = true)) : X3 st ns = some (refW st ns 145 rootX []).1 := by
  unfold X3;rw [h0, h1, if_pos h]; rfl
theorem Znm {st : Za} {ns : List (Option Zc)} {a x : Zi} (h : x ∈ chF st ns a) : 1 ≤ x.fId := by
  obtain ⟨e, he, rfl⟩ := List.mem_map.1 h;exact (Yv (Qn _) he).2.1
theorem ZgK {st : Za} {ns : List (Option Zc)} {n : Nat} {L : List Zi} (h : LinkP.dfs (chF st ns) n rootX = some L) : ∀ x ∈ L, 0 ≤ x.fId :=
  LinkP.dfs_all (fun x => 0 ≤ x.fId) (fun x y _ hy => by have := Znm hy; omega) h (Int.le_refl _)
theorem Zek {st : Za} {ns : List (Option Zc)} (H : Yo ns) : X3 st ns = bif Yc st ns then some (Vc st ns) else none := by
  cases h0 : YE ns 0 with
  | false => rw [Ve h0]; unfold Yc; rw [h0]; rfl
  | true =>
    have B := Zbf (st := st) H h0;have toL : ∀ k n, ns.getD k none = some n → ((lkN ns k : Nat) : Int) = n.fLinks := fun k n h => by
      rw [Vb h];have := (Zc.ok_is (H.ok k n h)).small.links
      omega
    cases hb : Yc st ns with
    | true =>
      unfold Yc at hb;rw [h0, Bool.true_and, Bool.and_eq_true] at hb;have hg := Zeg hb.1;obtain ⟨Q, hQ, hc⟩ := ZhX hb.2;obtain ⟨L, k1, k2, k3, k4⟩ := LinkP.link_to (id := fun x : Zi => x.fId.toNat) B ZgH (LinkP.bfs_is LinkP.QI.start hQ) (fun k hv h0 => hc k (Qd hv) hv h0) (a := rootX) rfl;have hpos := ZgK k1;have hs : ∀ x ∈ L, Zeh st ns x ∧ 0 ≤ x.fId := fun x hx => by
        obtain ⟨n, hn⟩ := Xo (k2 x hx);refine ⟨⟨n, hn, ?_⟩, hpos x hx⟩;have := hg _ n hn
        cases hf : (n.fKind == 1) with
        | true => exact .inl rfl
        | false =>
          rw [Jb hf] at this;exact .inr (Option.isSome_iff_exists.1 this)
      have hw := ZgJ (m := 145) (out := []) k1 hs (by simp only [List.length_nil]; omega) (by simp only [List.length_nil]; omega);rw [List.nil_append] at hw;have he : Vc st ns = L := by unfold Vc Zmi; rw [k1]; rfl
      rw [Zej h0 (by rw [hw]) (fun k n hn => ?_), hw, he]; rfl;rw [hw];refine ⟨?_, fun hf => ?_⟩
      · rw [← toL k n hn, ← k4 k (Z5 hn)]
      · have := hg k n hn
        rwa [Uv hf] at this
    | false =>
      cases hr : X3 st ns with
      | none => rfl
      | some o =>
        exfalso
        have h1 : (refW st ns 145 rootX []).2 = true := by
          cases h1 : (refW st ns 145 rootX []).2 with
          | true => rfl
          | false => rw [Vf h1] at hr; cases hr
        have h2 : ∀ k n, ns.getD k none = some n → (((refW st ns 145 rootX []).1.map fun x => x.fId.toNat).count k : Int) = n.fLinks ∧ ((n.fKind == 1) = true → (fileF st n).isSome = true) := fun k n hn => by
          by_cases hc : (((refW st ns 145 rootX []).1.map fun x => x.fId.toNat).count k : Int) = n.fLinks ∧ ((n.fKind == 1) = true → (fileF st n).isSome = true)
          · exact hc
          · rw [Vg hn hc] at hr; cases hr
        obtain ⟨L, k1, k2, k3, k4⟩ := Jc (m := 145) (a := rootX) (out := []) (o := (refW st ns 145 rootX []).1) (by rw [← h1]);rw [List.nil_append] at k2;rw [k2] at h2;have hcnt : ∀ k, validN ns k = true → (L.map fun x => x.fId.toNat).count k = lkN ns k := fun k hv => by
          obtain ⟨n, hn⟩ := Xo hv;have a1 := (h2 k n hn).1;have a2 := toL k n hn
          omega
        obtain ⟨Q, hQ, hc⟩ := LinkP.link_of (id := fun x : Zi => x.fId.toNat) B ZgH (a := rootX) rfl k1 (fun x hx => by obtain ⟨n, hn, _⟩ := k4 x hx; exact Z5 hn) hcnt;have hl : Jo st ns = true := ZfU hQ fun k _ hv h0 => hc k hv h0
        have hg : U9 st ns = true := ZhY fun k n hn => by
          cases hf : (n.fKind == 1) with
          | true => rw [Uv hf]; exact (h2 k n hn).2 hf
          | false =>
            rw [Jb hf]
            -- each folder is found
            have hF : YE ns k = true := by rw [VP hn, hf]; rfl
            have hm : k ∈ L.map fun x => x.fId.toNat := List.count_pos_iff.1 (by rw [hcnt k (Z5 hn), B.l1 k hF]; exact Nat.one_pos)
            obtain ⟨x, hx, e⟩ := List.mem_map.1 hm;obtain ⟨m, hm, hk⟩ := k4 x hx;have e : x.fId.toNat = k := e;rw [e, hn] at hm;obtain rfl := Option.some.inj hm;rw [hf] at hk;rcases hk with hk | ⟨es, hd⟩
            · cases hk
            · rw [hd]; rfl
        unfold Yc at hb;rw [h0, hg, hl] at hb; cases hb
noncomputable def filesF (st : Za) (t : Zo) : Option (List (Option Zc)) := (Zd9 st t).bind fun ns => bif Yc st ns then some ns else none
theorem JH {st : Za} {t : Zo} (h : Zd9 st t = none) : filesF st t = none := by unfold filesF; rw [h]; rfl
theorem Zb7 {st : Za} {t : Zo} {ns : List (Option Zc)} (h : Zd9 st t = some ns) (hb : Yc st ns = false) : filesF st t = none := by
  unfold filesF; rw [h]; show (bif _ then _ else _) = _; rw [hb]; rfl
theorem Zao {st : Za} {t : Zo} {ns : List (Option Zc)} (h : Zd9 st t = some ns) (hb : Yc st ns = true) : filesF st t = some ns := by
  unfold filesF; rw [h]; show (bif _ then _ else _) = _; rw [hb]; rfl
theorem VR {st : Za} {t : Zo} {ns : List (Option Zc)} (h : filesF st t = some ns) : Zd9 st t = some ns ∧ Yc st ns = true := by
  cases ht : Zd9 st t with
  | none => rw [JH ht] at h; cases h
  | some m =>
    cases hb : Yc st m with
    | false => rw [Zb7 ht hb] at h; cases h
    | true =>
      rw [Zao ht hb] at h;obtain rfl := Option.some.inj h;exact ⟨rfl, hb⟩
open Go.RowKit
theorem Zel {st : Za} {ns : List (Option Zc)} (H : Yo ns) (hb : Yc st ns = true) : LinkP.dfs (chF st ns) 17 rootX = some (Vc st ns) ∧ (Vc st ns).length ≤ 144 := by
  unfold Yc at hb
  cases h0 : YE ns 0 with
  | false => rw [h0] at hb; cases hb
  | true =>
    rw [h0, Bool.true_and, Bool.and_eq_true] at hb;have B := Zbf (st := st) H h0;have hg := Zeg hb.1;obtain ⟨Q, hQ, hc⟩ := ZhX hb.2;obtain ⟨L, k1, k2, k3, k4⟩ := LinkP.link_to (id := fun x : Zi => x.fId.toNat) B ZgH (LinkP.bfs_is LinkP.QI.start hQ) (fun k hv h0 => hc k (Qd hv) hv h0) (a := rootX) rfl;have hpos := ZgK k1;have hs : ∀ x ∈ L, Zeh st ns x ∧ 0 ≤ x.fId := fun x hx => by
      obtain ⟨n, hn⟩ := Xo (k2 x hx);refine ⟨⟨n, hn, ?_⟩, hpos x hx⟩;have := hg _ n hn
      cases hf : (n.fKind == 1) with
      | true => exact .inl rfl
      | false =>
        rw [Jb hf] at this;exact .inr (Option.isSome_iff_exists.1 this)
    have hw := ZgJ (m := 145) (out := []) k1 hs (by simp only [List.length_nil]; omega) (by simp only [List.length_nil]; omega);rw [List.nil_append] at hw;have he : Vc st ns = L := by unfold Vc Zmi; rw [k1]; rfl
    obtain ⟨L2, _, h2, h3, _⟩ := Jc hw;rw [he];exact ⟨k1, h3⟩
theorem ZgL {st : Za} {ns : List (Option Zc)} {k : Nat} {e : Zb} (he : e ∈ ZK st ns k) : ((e.fId.toNat : Nat) : Int) = e.fId ∧ e.fName.size ≠ 0 ∧ e.fName.size ≤ 4 := by
  have h := Yv (Qn (st := st) (ns := ns) k) he;have h2 := Zb1 h.1
  omega
end Go.Proofs.YtigjfacaofgjjaaGreatDoor
