/- A part of the proof in YtdlmlagcniifjaaGreatDoorFnZ32. -/
import Derived.Shelf.Strconv.Clone
import Derived.Shelf.Strings.Cut
import Derived.Test.YtdlmlagcniifjaaGreatDoorFnZ20
namespace Go.Proofs.YtdlmlagcniifjaaGreatDoor
set_option linter.unusedVariables false
set_option linter.unusedSimpArgs false
set_option maxHeartbeats 1000000
set_option maxRecDepth 100000
open Go.Shelf
def layCut_ren : Go.Shelf.Ren := ⟨fun | 145 => 160 | 217 => 193 | 219 => 182 | 220 => 171 | 224 => 195 | 225 => 194 | 266 => 202 | 267 => 196 | 314 => 203 | n => n, fun | 3 => 3 | 4 => 4 | 5 => 5 | 9 => 9 | 46 => 194 | 51 => 192 | 59 => 176 | 146 => 216 | n => n, fun | 1 => 1 | n => n⟩
theorem layCut : Go.Proofs.Lays.n145 Tryz.prog layCut_ren := {
  mixed := by kernel_rfl
  f145 := Tryz.func160.trans (congrArg some (by kernel_rfl))
  f217 := Tryz.func193.trans (congrArg some (by kernel_rfl))
  f219 := Tryz.func182.trans (congrArg some (by kernel_rfl))
  f220 := Tryz.func171.trans (congrArg some (by kernel_rfl))
  f224 := Tryz.func195.trans (congrArg some (by kernel_rfl))
  f225 := Tryz.func194.trans (congrArg some (by kernel_rfl))
  f266 := Tryz.func202.trans (congrArg some (by kernel_rfl))
  f267 := Tryz.func196.trans (congrArg some (by kernel_rfl))
  f314 := Tryz.func203.trans (congrArg some (by kernel_rfl))
  t3 := Tryz.underlying3
  a3 := Tryz.isAgg3
  z3 := Tryz.sizeOf3
  v3 := Tryz.zeroValue3
  t4 := Tryz.underlying4
  a4 := Tryz.isAgg4
  z4 := Tryz.sizeOf4
  v4 := Tryz.zeroValue4
  t5 := Tryz.underlying5
  a5 := Tryz.isAgg5
  z5 := Tryz.sizeOf5
  v5 := Tryz.zeroValue5
  t9 := Tryz.underlying9
  a9 := Tryz.isAgg9
  z9 := Tryz.sizeOf9
  v9 := Tryz.zeroValue9
  t46 := Tryz.underlying194
  a46 := Tryz.isAgg194
  z46 := Tryz.sizeOf194
  v46 := Tryz.zeroValue194
  t51 := Tryz.underlying192
  a51 := Tryz.isAgg192
  z51 := Tryz.sizeOf192
  v51 := Tryz.zeroValue192
  t59 := Tryz.underlying176
  a59 := Tryz.isAgg176
  z59 := Tryz.sizeOf176
  v59 := Tryz.zeroValue176
  t146 := Tryz.underlying216
  a146 := Tryz.isAgg216
  z146 := Tryz.sizeOf216
  v146 := Tryz.zeroValue216
  g1 := by kernel_rfl }
def layClone_ren : Go.Shelf.Ren := ⟨fun | 316 => 172 | n => n, fun | 0 => 0 | 3 => 3 | 4 => 4 | 5 => 5 | 9 => 9 | 37 => 105 | 127 => 158 | n => n, fun | n => n⟩
theorem layClone : Go.Proofs.LaysM.n316 Tryz.prog layClone_ren := {
  mixed := by kernel_rfl
  f316 := Tryz.func172.trans (congrArg some (by kernel_rfl))
  t0 := Tryz.underlying0
  a0 := Tryz.isAgg0
  z0 := Tryz.sizeOf0
  v0 := Tryz.zeroValue0
  t3 := Tryz.underlying3
  a3 := Tryz.isAgg3
  z3 := Tryz.sizeOf3
  v3 := Tryz.zeroValue3
  t4 := Tryz.underlying4
  a4 := Tryz.isAgg4
  z4 := Tryz.sizeOf4
  v4 := Tryz.zeroValue4
  t9 := Tryz.underlying9
  a9 := Tryz.isAgg9
  z9 := Tryz.sizeOf9
  v9 := Tryz.zeroValue9
  t37 := Tryz.underlying105
  a37 := Tryz.isAgg105
  z37 := Tryz.sizeOf105
  v37 := Tryz.zeroValue105
  t127 := Tryz.underlying158
  a127 := Tryz.isAgg158
  z127 := Tryz.sizeOf158
  v127 := Tryz.zeroValue158
  t5 := Tryz.underlying5
  a5 := Tryz.isAgg5
  z5 := Tryz.sizeOf5
  v5 := Tryz.zeroValue5
  i0 := by kernel_rfl
  i3 := by kernel_rfl
  i4 := by kernel_rfl
  i5 := by kernel_rfl
  i9 := by kernel_rfl
  i37 := by kernel_rfl
  i127 := by kernel_rfl }
open Go.RowKit
theorem cut_any (s : ByteArray) (w : World) (hM : MaxP w) (hs : s.size ≤ 4294967280) : Calls Tryz.prog 160 #[.string s, .string ⟨#[58]⟩] w fun e w' => ((58 : UInt8) ∉ s.data.toList ∧ (∃ b a : ByteArray, e = .returned (.tuple #[.string b, .string a, .bool false])) ∧ Below w.heap.size w w') ∨ (∃ num tail : ByteArray, s.data.toList = num.data.toList ++ 58 :: tail.data.toList ∧ (58 : UInt8) ∉ num.data.toList ∧ e = .returned (.tuple #[.string num, .string tail, .bool true]) ∧ Below w.heap.size w w') := by
  obtain ⟨m, hm⟩ := hM
  refine (Any.strings_Cut layCut s ⟨#[58]⟩ m w (by omega) hm).mono ?_
  rintro e w' ⟨rfl, n, rfl⟩
  rcases cut_split 58 s.data.toList with ⟨h1, h2⟩ | ⟨d, t, h1, h2, h3⟩
  · refine .inl ⟨h1, ⟨⟨(Go.Lib.cut s.data.toList [58]).1.toArray⟩, ⟨(Go.Lib.cut s.data.toList [58]).2.1.toArray⟩, ?_⟩, below_drewN _ _ _⟩
    show Ending.returned (.tuple #[_, _, .bool (Go.Lib.cut s.data.toList [58]).2.2]) = _
    rw [h2]
  · refine .inr ⟨⟨d.toArray⟩, ⟨t.toArray⟩, h1, h2, ?_, below_drewN _ _ _⟩
    show Ending.returned (.tuple #[.string ⟨(Go.Lib.cut s.data.toList [58]).1.toArray⟩, .string ⟨(Go.Lib.cut s.data.toList [58]).2.1.toArray⟩, .bool (Go.Lib.cut s.data.toList [58]).2.2]) = _
    rw [h3]
theorem clone_text (s : ByteArray) (w0 : World) (hs : s.size ≤ 281474976710656) : Calls Tryz.prog 161 #[.string s] w0 fun e w' => e = .returned (.string s) ∧ Below w0.heap.size w0 w' := by
 have HS := Bx.mk (St.start w0)
 refine wc_enter Tryz.func161 rfl Tryz.ntmps161 [(0, .string s)] ⟨rfl, trivial⟩ rfl ?_
 refine xsr<|xr 1 rfl<|xne<|xsr<|xr 1 rfl ?_
 intro a HF
 refine ycB (Any.stringslite_Clone layClone s _ (by omega)) HF Tryz.func172 HS ?_; clear HF HS a; intro w1 a HS HF
 revert a;refine xr 1 rfl<|xne<|xre<|xb1 Tryz.results161 rfl ?_
 exact ⟨rfl, HS.out.bel⟩
theorem fieldsGet_any (s : ByteArray) (w0 : World) (hT : TabP w0) (hM : MaxP w0) (hE : ErrP w0) (hs : s.size ≤ 9223372036854775807) : Calls Tryz.prog 146 #[.string s] w0 fun e w' => (∃ xs, IsRec s xs ∧ s.size ≤ 2048 ∧ ∃ ao cp, e = .returned (.tuple #[.slice ao xs.length cp, .bool true]) ∧ St w0 [rowA encS 1 9 (.slice ao xs.length cp) xs] w') ∨ ((∀ l, IsRec s l → s.size ≤ 2048 → False) ∧ e = .returned (.tuple #[.slice none 0 0, .bool false]) ∧ Below w0.heap.size w0 w') := by
 have HT := Bx.mk hT; have HM := Bx.mk hM; have HE := Bx.mk hE; clear hT hM hE
 have HS := Bx.mk (St.start w0)
 refine wc_enter Tryz.func146 rfl Tryz.ntmps146 [(0, .string s)] ⟨rfl, trivial⟩ rfl ?_
 refine xsr<|xr 2 rfl<|xne<|xsq<|xsr<|xr 1 rfl<|xy rfl (fun a HF=>yl_lenS rfl (HF.ev rfl) (by kernel_rfl))<|xr 1 rfl<|xne<|xcs 13 rfl (fun cc1=>?_) fun cc1=>?_
 have dcc1 := of_decide_eq_true cc1
 refine xct rfl<|xsr<|xr 2 rfl<|xne<|xre<|xtr<|xb2 Tryz.results146 rfl rfl ?_
 exact .inr ⟨fun l h h2 => absurd h2 (by omega), rfl, HS.out.bel⟩
 have dcc1 := of_decide_eq_false cc1
 refine xcf rfl<|xsk<|xet<|xsq ?_
 have hsz : s.size ≤ 2048 := by omega
 refine xrl<|xr 1 rfl<|xne<|xsq<|xsr<|xr 2 rfl<|xne<|xbl ?_
 replace HS := Bx.mk (HS.out.nilRow encS 1 9 none)
 intro a HF
 refine wc_loop (ι := Nat) (fun k a w => ∃ (ao : Option Addr) (cp : Nat) (xs : List ByteArray) (rest : ByteArray), (k = rest.size ∧ RdTo s xs rest ∧ xs.length ≤ 60) ∧ Fr 56 a [(0, .string s), (4, .slice ao xs.length cp), (5, .string rest)] ∧ St w0 ([rowA encS 1 9 (.slice ao xs.length cp) xs]) w) (fun k => k) s.size ⟨_, _, [], s, ⟨rfl, RdTo.zero s, Nat.zero_le _⟩, HF.less _ ⟨rfl, rfl, rfl, trivial⟩, HS.out⟩ ?_
 clear HF HS; clear a
 rintro k a w1 ⟨ao, cp, xs, rest, ⟨hkr, hto, hxl⟩, HF, HS⟩
 replace HS := Bx.mk HS
 have hrs := hto.size
 revert a;refine xsq<|xsr<|xr 1 rfl<|xy rfl (fun a HF=>yl_neqS rfl (HF.ev rfl) (HF.ev rfl))<|xne<|xcs 16 rfl (fun cc2=>?_) fun cc2=>?_
 have hre : (rest.toList == (⟨#[]⟩ : ByteArray).toList) = false := by simpa using cc2
 refine xct rfl<|xsk<|xet<|xbl<|xsr<|xr 1 rfl ?_
 intro a HF
 refine yc (cut_any rest _ (HM.out.below HS.out.bel) (by omega)) HF Tryz.func160 ?_
 rintro _ w2 (⟨h58, ⟨cb, ca, rfl⟩, hb⟩ | ⟨num, tail, hcut, h58, rfl, hb⟩)
 refine ⟨_, rfl, ?_⟩; replace HS := Bx.mk (HS.out.later hb);clear hb HF a
 refine xr 7 rfl<|xne<|xsr<|xr 1 rfl ?_
 intro a HF
 refine yc (implNumGet_any cb _ (HT.out.below HS.out.bel) (HE.out.below HS.out.bel)) HF Tryz.func147 ?_
 rintro _ w3 (⟨n, hng, rfl, hb⟩ | ⟨hng, rfl, hb⟩)
 refine ⟨_, rfl, ?_⟩; replace HS := Bx.mk (HS.out.later hb);clear hb HF a
 refine xr 5 rfl<|xne<|xsq<|xsr<|xr 17 rfl<|xne<|xct rfl<|xsr<|xr 2 rfl<|xne<|xre<|xtr<|xbr<|xtr<|xbr<|xtr<|xb2 Tryz.results146 rfl rfl ?_
 refine .inr ⟨fun l h h2 => ?_, rfl, HS.out.bel⟩
 obtain ⟨y, ws, e1, e2, e3, e4⟩ := hto.go h.is h2 h.many hre
 exact h58 (by rw [e2]; simp)
 refine ⟨_, rfl, ?_⟩; replace HS := Bx.mk (HS.out.later hb);clear hb HF a
 refine xr 5 rfl<|xne<|xsq<|xsr<|xr 17 rfl<|xne<|xct rfl<|xsr<|xr 2 rfl<|xne<|xre<|xtr<|xbr<|xtr<|xbr<|xtr<|xb2 Tryz.results146 rfl rfl ?_
 refine .inr ⟨fun l h h2 => ?_, rfl, HS.out.bel⟩
 obtain ⟨y, ws, e1, e2, e3, e4⟩ := hto.go h.is h2 h.many hre
 exact h58 (by rw [e2]; simp)
 refine ⟨_, rfl, ?_⟩; replace HS := Bx.mk (HS.out.later hb);clear hb HF a;intro a HF
 have htl : tail.size ≤ 2048 := by have h1 := congrArg List.length hcut; rw [List.length_append, List.length_cons] at h1; have h2 := size_list rest; have h3 := size_list tail; have h4 := hto.size; omega
 revert a;refine xr 7 rfl<|xne<|xsr<|xr 1 rfl ?_
 intro a HF
 refine yc (implNumGet_any num _ (HT.out.below HS.out.bel) (HE.out.below HS.out.bel)) HF Tryz.func147 ?_
 rintro _ w4 (⟨n, hng, rfl, hb⟩ | ⟨hng, rfl, hb⟩)
 refine ⟨_, rfl, ?_⟩; replace HS := Bx.mk (HS.out.later hb);clear hb HF a
 refine xr 5 rfl<|xne<|xsq<|xsr<|xr 9 rfl<|xy rfl (fun a HF=>yl_lenS rfl (HF.ev rfl) (by kernel_rfl))<|xr 3 rfl<|xcs 40 rfl (fun cc3=>?_) fun cc3=>?_
 have dcc3 := of_decide_eq_true cc3
 refine xr 4 rfl<|xne<|xct rfl<|xsr<|xr 2 rfl<|xne<|xre<|xtr<|xbr<|xtr<|xbr<|xtr<|xb2 Tryz.results146 rfl rfl ?_
 refine .inr ⟨fun l h h2 => ?_, rfl, HS.out.bel⟩
 obtain ⟨y, ws, e1, e2, e3, e4⟩ := hto.go h.is h2 h.many hre
 have e5 := app_58 (dec_no58 y.size) h58 (e2.symm.trans hcut)
 rw [ba_ext e5.1] at e3; have e6 := Option.some.inj (e3.symm.trans hng); have e7 := congrArg List.length e5.2; rw [List.length_append] at e7; have e8 := size_list y; have e9 := size_list tail; omega
 have dcc3 := of_decide_eq_false cc3
 refine xr 1 rfl<|xy rfl (vn 9 1 rfl)<|xr 2 rfl<|xne<|xcs 44 rfl (fun cc4=>?_) fun cc4=>?_
 have dcc4 := eq_of_beq cc4
 refine xct rfl<|xsr<|xr 2 rfl<|xne<|xre<|xtr<|xbr<|xtr<|xbr<|xtr<|xb2 Tryz.results146 rfl rfl ?_
 refine .inr ⟨fun l h h2 => ?_, rfl, HS.out.bel⟩
 obtain ⟨y, ws, e1, e2, e3, e4⟩ := hto.go h.is h2 h.many hre
 have e5 := app_58 (dec_no58 y.size) h58 (e2.symm.trans hcut)
 rw [ba_ext e5.1] at e3; have e6 := Option.some.inj (e3.symm.trans hng); have e7 := congrArg List.length e5.2; rw [List.length_append] at e7; have e8 := size_list y; have e9 := size_list tail; omega
 have dcc4 := ne_of_beq_false cc4
 refine xcf rfl<|xsk<|xet<|xsr<|xr 3 rfl<|xy rfl (fun a HF=>yl_sliceSh (k := n) rfl (HF.ev rfl) (HF.ev rfl) (by kernel_rfl) (by omega) (by omega)) ?_
 intro a HF
 refine ycB (clone_text (tail.extract 0 n) _ (by rw [ByteArray.size_extract]; omega)) HF Tryz.func161 HS ?_; clear HF HS a; intro w5 a HS HF
 refine ybs encS 9 1 [tail.extract 0 n] HF HS ?_;clear HF HS a;intro b1 a w6 HF HS
 refine yap elemS encS_len HS 1 HF (St.rdN HS.out encS_len 0 rfl) (cells_one_S _) ?_;clear HF HS a;intro ao2 cp3 w7 a HF HS
 try dsimp only [List.eraseIdx] at HS
 revert a;refine xr 1 rfl<|xne<|xrl<|xr 2 rfl<|xy rfl (fun a HF=>yl_sliceSl (k := n) rfl (HF.ev rfl) (HF.ev rfl) (by kernel_rfl) (by omega) (by omega))<|xr 1 rfl<|xni<|xeb<|xet ?_
 have hz : xs.length + ([tail.extract 0 n]).length = (xs ++ ([tail.extract 0 n])).length := (List.length_append ..).symm
 intro a HF
 rw [hz] at HS HF
 have hto2 := hto.step hcut hng (by omega)
 have hlt : (tail.extract n tail.size).size < rest.size := by have h1 := congrArg List.length hcut; rw [List.length_append, List.length_cons] at h1; have h2 := size_list rest; have h3 := size_list tail; rw [ByteArray.size_extract]; omega
 replace HS:=Bx.mk (HS.out.pick 1 rfl)
 exact ⟨(tail.extract n tail.size).size, ⟨_, _, xs ++ ([tail.extract 0 n]), tail.extract n tail.size, ⟨rfl, hto2, by rw [List.length_append, List.length_cons, List.length_nil]; omega⟩, HF.less _ ⟨rfl, rfl, rfl, trivial⟩, (HS.out.erase 1)⟩, (by rw [hkr]; exact hlt)⟩
 refine ⟨_, rfl, ?_⟩; replace HS := Bx.mk (HS.out.later hb);clear hb HF a
 refine xr 5 rfl<|xne<|xsq<|xsr<|xr 17 rfl<|xne<|xct rfl<|xsr<|xr 2 rfl<|xne<|xre<|xtr<|xbr<|xtr<|xbr<|xtr<|xb2 Tryz.results146 rfl rfl ?_
 refine .inr ⟨fun l h h2 => ?_, rfl, HS.out.bel⟩
 obtain ⟨y, ws, e1, e2, e3, e4⟩ := hto.go h.is h2 h.many hre
 have e5 := app_58 (dec_no58 y.size) h58 (e2.symm.trans hcut)
 rw [ba_ext e5.1] at e3; rw [e3] at hng; cases hng
 have hre : (rest.toList == (⟨#[]⟩ : ByteArray).toList) = true := by simpa using cc2
 refine xcf rfl<|xex<|xtx<|xtx<|xbh<|xet<|xsr<|xr 3 rfl<|xne<|xre<|xb2 Tryz.results146 rfl rfl ?_
 replace HS:=Bx.mk (HS.out.pick 0 rfl)
 exact .inl ⟨xs, ⟨hto.done hre, hxl⟩, hsz, _, _, rfl, HS.out⟩
open Go.RowKit
theorem dec_no46 (n : Nat) : ∀ x ∈ (decB n).data.toList, x ≠ 46 := by
  intro x hx e
  subst e
  rw [decB_list] at hx
  obtain ⟨d, hd⟩ := digits_all n 46 hx
  obtain ⟨h1, h10⟩ := digit_back hd
  have hn : (UInt8.ofNat (48 + d)).toNat = 48 + d := by rw [UInt8.toNat_ofNat']; omega
  rw [← h1] at hn
  have : (46 : UInt8).toNat = 46 := rfl
  omega
theorem num_no46 {n : Int} (h : 0 ≤ n ∧ n ≤ 999999999) : ∀ x ∈ (numB n).data.toList, x ≠ 46 := by rw [numB_in h.1 h.2]; exact dec_no46 _
theorem pieces46 {a : ByteArray} (h : ∀ x ∈ a.data.toList, x ≠ 46) (b : ByteArray) : piecesB (a ++ (dotB ++ b)) 46 = a :: piecesB b 46 := by
  unfold piecesB
  rw [list_append, list_append, show dotB.data.toList = [46] from rfl, List.singleton_append, splitL_app 46 _ _ h, List.map_cons]
theorem pieces46_one {a : ByteArray} (h : ∀ x ∈ a.data.toList, x ≠ 46) : piecesB a 46 = [a] := by
  unfold piecesB
  rw [splitL_none 46 _ h, List.map_cons, List.map_nil]
theorem app_assoc (a b c : ByteArray) : a ++ b ++ c = a ++ (b ++ c) := ba_ext (by simp only [list_append, List.append_assoc])
theorem ptr_pieces {p : PtrD} (h : p.ok = true) (hh : p.hole = false) : piecesB (ptrB p) 46 = [numB p.fAt, numB p.fBirth, numB p.fSize, numB p.fSum, numB p.fLevel] := by
  have hb := PtrD.ok_all h hh
  rw [ptrB_yes h hh]
  simp only [app_assoc]
  rw [pieces46 (num_no46 (by omega)), pieces46 (num_no46 (by omega)), pieces46 (num_no46 (by omega)), pieces46 (num_no46 (by omega)), pieces46_one (num_no46 (by omega))]
theorem numG_num {n : Int} (h : 0 ≤ n ∧ n ≤ 999999999) : numG (numB n) = some n.toNat := by rw [numB_in h.1 h.2]; exact numG_dec (by omega)
theorem num_read {n : Int} {m : Nat} (h : 0 ≤ n ∧ n ≤ 999999999) (hg : numG (numB n) = some m) : (m : Int) = n := by
  rw [numG_num h] at hg
  have := Option.some.inj hg
  omega
theorem hole_zero {p : PtrD} (h : p.hole = true) : p = PtrD.zero := by
  unfold PtrD.hole at h
  simp only [Bool.and_eq_true, beq_iff_eq] at h
  obtain ⟨⟨⟨⟨h1, h2⟩, h3⟩, h4⟩, h5⟩ := h
  cases p
  simp only at h1 h2 h3 h4 h5
  subst h1; subst h2; subst h3; subst h4; subst h5
  rfl
theorem ptr_dash {p : PtrD} {s : ByteArray} (h : p.ok = true) (hs : ptrB p = s) (hd : (s.toList == (⟨#[45]⟩ : ByteArray).toList) = false) : p.hole = false := by
  cases hh : p.hole with
  | false => rfl
  | true =>
    rw [ptrB_hole h hh] at hs
    rw [← hs, show ((⟨#[45]⟩ : ByteArray).toList == (⟨#[45]⟩ : ByteArray).toList) = true from beq_self_eq_true _] at hd
    cases hd
theorem len5 {α : Type} {l : List α} (h : l.length = 5) : ∃ a b c d e, l = [a, b, c, d, e] := by
  match l, h with
  | [a, b, c, d, e], _ => exact ⟨a, b, c, d, e, rfl⟩
theorem ptrB_inj {p q : PtrD} (hp : p.ok = true) (hq : q.ok = true) (h : ptrB p = ptrB q) : p = q := by
  cases h1 : p.hole with
  | true =>
    cases h2 : q.hole with
    | true => rw [hole_zero h1, hole_zero h2]
    | false =>
      have := ptr_pieces hq h2
      rw [← h, ptrB_hole hp h1] at this
      exact absurd (congrArg List.length this) (show ¬ (1 : Nat) = 5 by decide)
  | false =>
    cases h2 : q.hole with
    | true =>
      have := ptr_pieces hp h1
      rw [h, ptrB_hole hq h2] at this
      exact absurd (congrArg List.length this) (show ¬ (1 : Nat) = 5 by decide)
    | false =>
      have e1 := ptr_pieces hp h1
      have e2 := ptr_pieces hq h2
      rw [h, e2] at e1
      have hb := PtrD.ok_all hp h1
      have hc := PtrD.ok_all hq h2
      simp only [List.cons.injEq, and_true] at e1
      obtain ⟨k1, k2, k3, k4, k5⟩ := e1
      have num : ∀ {m n : Int}, 0 ≤ m ∧ m ≤ 999999999 → 0 ≤ n ∧ n ≤ 999999999 → numB m = numB n → n = m := fun hm hn e => by
        have := numG_num hm
        rw [e, numG_num hn] at this
        have := Option.some.inj this
        omega
      have j1 := num (by omega) (by omega) k1
      have j2 := num (by omega) (by omega) k2
      have j3 := num (by omega) (by omega) k3
      have j4 := num (by omega) (by omega) k4
      have j5 := num (by omega) (by omega) k5
      cases p; cases q
      simp only at j1 j2 j3 j4 j5
      subst j1; subst j2; subst j3; subst j4; subst j5
      rfl
theorem ptrGet_any (s : ByteArray) (w0 : World) (hT : TabP w0) (hM : MaxP w0) (hE : ErrP w0) (hs : s.size ≤ 4294967280) : Calls Tryz.prog 163 #[.string s] w0 fun e w' => (∃ p : PtrD, p.ok = true ∧ ptrB p = s ∧ e = .returned (.tuple #[pV p, .bool true]) ∧ Below w0.heap.size w0 w') ∨ ((∀ p : PtrD, p.ok = true → ptrB p = s → False) ∧ e = .returned (.tuple #[az5, .bool false]) ∧ Below w0.heap.size w0 w') := by
 have HT := Bx.mk hT; have HM := Bx.mk hM; have HE := Bx.mk hE; clear hT hM hE
 have HS := Bx.mk (St.start w0)
 refine wc_enter Tryz.func163 rfl Tryz.ntmps163 [(0, .string s)] ⟨rfl, trivial⟩ rfl ?_
 refine xsr ?_
 intro a HF
 refine yal z5 HF HS ?_;clear HF HS a;intro a w1 b1 HF HS
 revert a;refine xr 1 rfl<|xne<|xsq<|xsr<|xr 1 rfl<|xy rfl (fun a HF=>yl_eqlS rfl (HF.ev rfl) (HF.ev rfl))<|xne<|xcs 12 rfl (fun cc1=>?_) fun cc1=>?_
 refine xct rfl<|xsr<|xy rfl (vb z5 rfl) ?_
 intro a HF
 refine yst HF HS 0 ?_;clear HS;intro w2 HS
 try dsimp only [List.set] at HS
 revert a;refine xr 1 rfl<|xne<|xre<|xtr ?_
 intro a HF
 refine bp_ret2 HF Tryz.results163 (HF.resBox rfl (HS.out.box 0 rfl) (by kernel_rfl)) (HF.res rfl) ?_
 exact .inl ⟨PtrD.zero, by decide, (ptrB_hole (by decide) (by decide)).trans (bytes_toList cc1).symm, rfl, HS.out.bel⟩
 refine xcf rfl<|xsk<|xet<|xsr ?_
 intro a HF
 refine yal z5 HF HS ?_;clear HF HS a;intro a w3 b2 HF HS
 revert a;refine xne<|xsr<|xr 1 rfl ?_
 intro a HF
 refine yc (split_any s 46 _ (by omega) (HM.out.below HS.out.bel)) HF Tryz.func164 ?_
 rintro _ w4 ⟨ao3, cp3, rfl, hs⟩
 refine ⟨_, rfl, ?_⟩
 replace HS := Bx.mk (HS.out.add hs);clear hs HF a;intro a HF
 try dsimp only [List.eraseIdx] at HS
 revert a;refine xr 1 rfl<|xne<|xsr ?_
 intro a HF
 refine yc (parts_any b2 _) HF Tryz.func137 ?_
 rintro _ w5 ⟨ao4, cp4, rfl, hs⟩
 refine ⟨_, rfl, ?_⟩
 replace HS := Bx.mk (HS.out.add hs);clear hs HF a;intro a HF
 try dsimp only [List.eraseIdx] at HS
 revert a;refine xr 1 rfl<|xne<|xsq<|xsr<|xr 1 rfl<|xy rfl (vn 9 1 rfl)<|xr 1 rfl<|xy rfl (vn 161 1 rfl)<|xr 1 rfl<|xne<|xcs 21 rfl (fun cc2=>?_) fun cc2=>?_
 have dcc2 := bne_iff_ne.1 cc2
 refine xct rfl<|xsr<|xy rfl (vb z5 rfl) ?_
 intro a HF
 refine yst HF HS 3 ?_;clear HS;intro w6 HS
 try dsimp only [List.set] at HS
 revert a;refine xr 1 rfl<|xne<|xre<|xtr ?_
 intro a HF
 refine bp_ret2 HF Tryz.results163 (HF.resBox rfl (HS.out.box 3 rfl) (by kernel_rfl)) (HF.res rfl) ?_
 refine .inr ⟨fun q hq hqs => ?_, rfl, HS.out.bel⟩
 have hqh := ptr_dash hq hqs (by simpa using cc1); have hqp := ptr_pieces hq hqh; rw [hqs] at hqp; have hqb := PtrD.ok_all hq hqh
 rw [hqp] at dcc2; exact dcc2 rfl
 have dcc2 := bne_eq_false_iff_eq.1 cc2
 refine xcf rfl<|xsk<|xet<|xsq<|xsq ?_
 intro a HF
 obtain ⟨x0, x1, x2, x3, x4, hws⟩ := len5 (l := piecesB s 46) (by omega); rw [hws] at HS HF
 replace HF : Fr 51 a [(0, .string s), (2, .pointer (some ⟨b1, 0, none⟩)), (3, .bool false), (11, .string s), (12, .bool false), (4, .pointer (some ⟨b2, 0, none⟩)), (14, .string s), (15, .slice ao3 5 cp3), (5, .slice ao3 5 cp3), (16, .slice ao4 5 cp4), (6, .slice ao4 5 cp4), (17, .slice ao3 5 cp3), (19, .slice ao4 5 cp4), (20, .int .i64 (5 : Int)), (21, .bool false)] := HF.less _ ⟨rfl, rfl, rfl, rfl, rfl, rfl, rfl, rfl, rfl, rfl, rfl, rfl, rfl, rfl, rfl, trivial⟩
 try dsimp only [List.eraseIdx] at HS
 obtain ⟨g5, rfl, _, _, _, _⟩ := HS.out.rowOpen 1 rfl (Nat.succ_pos _)
 obtain ⟨g6, rfl, _, _, _, _⟩ := HS.out.rowOpen 0 rfl (Nat.succ_pos _)
 revert a;refine xrl<|xr 1 rfl<|xy rfl (vn 9 1 rfl)<|xr 1 rfl<|xne<|xbl ?_
 intro a HF
 refine wc_rounds 6 ?_
 revert a;refine xsr<|xr 1 rfl<|xne<|xsq ?_
 intro a HF
 replace HF := HF.know (k := 26) (c := true) rfl (by decide)
 revert a;refine xct rfl<|xsk<|xet<|xsq<|xbl<|xsr<|xr 1 rfl<|xy rfl (vx 9 0 1 rfl)<|xy rfl (ve encS_len HS.out 1 0 rfl rfl rfl rfl)<|xr 2 rfl<|xne<|xsr<|xr 1 rfl ?_
 intro a HF
 refine yc (implNumGet_any x0 _ (HT.out.below HS.out.bel) (HE.out.below HS.out.bel)) HF Tryz.func147 ?_
 rintro _ w7 (⟨n7, hg7, rfl, hb⟩ | ⟨hg7, rfl, hb⟩)
 refine ⟨_, rfl, ?_⟩; replace HS := Bx.mk (HS.out.later hb);clear hb HF a
 refine xr 5 rfl<|xne<|xsq<|xsr<|xr 2 rfl<|xne<|xcf rfl<|xsk<|xet<|xrl<|xr 2 rfl<|xy rfl (vx 161 0 1 rfl)<|xy rfl (ve encA_len HS.out 0 0 rfl rfl rfl rfl)<|xr 2 rfl ?_
 intro a HF
 refine wl_storeF rfl rfl rfl (HF.ev rfl) (HF.ev rfl) (by kernel_rfl) HS.out 2 rfl rfl rfl ?_; clear HS; intro w8 HS; replace HS := Bx.mk HS
 try dsimp only [List.set] at HS
 revert a;refine xni<|xeb<|xet<|xrl<|xy rfl (fun a HF=>yl_addI (r := 1) rfl (HF.ev rfl) (HF.ev rfl) (by decide))<|xr 1 rfl<|xne ?_
 intro a HF
 refine wc_round 5 ?_
 revert a;refine xsr<|xr 1 rfl<|xne<|xsq ?_
 intro a HF
 replace HF := HF.know (k := 26) (c := true) rfl (by decide)
 revert a;refine xct rfl<|xsk<|xet<|xsq<|xbl<|xsr<|xr 1 rfl<|xy rfl (vx 9 1 1 rfl)<|xy rfl (ve encS_len HS.out 1 1 rfl rfl rfl rfl)<|xr 2 rfl<|xne<|xsr<|xr 1 rfl ?_
 intro a HF
 refine yc (implNumGet_any x1 _ (HT.out.below HS.out.bel) (HE.out.below HS.out.bel)) HF Tryz.func147 ?_
 rintro _ w9 (⟨n8, hg8, rfl, hb⟩ | ⟨hg8, rfl, hb⟩)
 refine ⟨_, rfl, ?_⟩; replace HS := Bx.mk (HS.out.later hb);clear hb HF a
 refine xr 5 rfl<|xne<|xsq<|xsr<|xr 2 rfl<|xne<|xcf rfl<|xsk<|xet<|xrl<|xr 2 rfl<|xy rfl (vx 161 1 1 rfl)<|xy rfl (ve encA_len HS.out 0 1 rfl rfl rfl rfl)<|xr 2 rfl ?_
 intro a HF
 refine wl_storeF rfl rfl rfl (HF.ev rfl) (HF.ev rfl) (by kernel_rfl) HS.out 2 rfl rfl rfl ?_; clear HS; intro w10 HS; replace HS := Bx.mk HS
 try dsimp only [List.set] at HS
 revert a;refine xni<|xeb<|xet<|xrl<|xy rfl (fun a HF=>yl_addI (r := 2) rfl (HF.ev rfl) (HF.ev rfl) (by decide))<|xr 1 rfl<|xne ?_
 intro a HF
 refine wc_round 4 ?_
 revert a;refine xsr<|xr 1 rfl<|xne<|xsq ?_
 intro a HF
 replace HF := HF.know (k := 26) (c := true) rfl (by decide)
 revert a;refine xct rfl<|xsk<|xet<|xsq<|xbl<|xsr<|xr 1 rfl<|xy rfl (vx 9 2 1 rfl)<|xy rfl (ve encS_len HS.out 1 2 rfl rfl rfl rfl)<|xr 2 rfl<|xne<|xsr<|xr 1 rfl ?_
 intro a HF
 refine yc (implNumGet_any x2 _ (HT.out.below HS.out.bel) (HE.out.below HS.out.bel)) HF Tryz.func147 ?_
 rintro _ w11 (⟨n9, hg9, rfl, hb⟩ | ⟨hg9, rfl, hb⟩)
 refine ⟨_, rfl, ?_⟩; replace HS := Bx.mk (HS.out.later hb);clear hb HF a
 refine xr 5 rfl<|xne<|xsq<|xsr<|xr 2 rfl<|xne<|xcf rfl<|xsk<|xet<|xrl<|xr 2 rfl<|xy rfl (vx 161 2 1 rfl)<|xy rfl (ve encA_len HS.out 0 2 rfl rfl rfl rfl)<|xr 2 rfl ?_
 intro a HF
 refine wl_storeF rfl rfl rfl (HF.ev rfl) (HF.ev rfl) (by kernel_rfl) HS.out 2 rfl rfl rfl ?_; clear HS; intro w12 HS; replace HS := Bx.mk HS
 try dsimp only [List.set] at HS
 revert a;refine xni<|xeb<|xet<|xrl<|xy rfl (fun a HF=>yl_addI (r := 3) rfl (HF.ev rfl) (HF.ev rfl) (by decide))<|xr 1 rfl<|xne ?_
 intro a HF
 refine wc_round 3 ?_
 revert a;refine xsr<|xr 1 rfl<|xne<|xsq ?_
 intro a HF
 replace HF := HF.know (k := 26) (c := true) rfl (by decide)
 revert a;refine xct rfl<|xsk<|xet<|xsq<|xbl<|xsr<|xr 1 rfl<|xy rfl (vx 9 3 1 rfl)<|xy rfl (ve encS_len HS.out 1 3 rfl rfl rfl rfl)<|xr 2 rfl<|xne<|xsr<|xr 1 rfl ?_
 intro a HF
 refine yc (implNumGet_any x3 _ (HT.out.below HS.out.bel) (HE.out.below HS.out.bel)) HF Tryz.func147 ?_
 rintro _ w13 (⟨n10, hg10, rfl, hb⟩ | ⟨hg10, rfl, hb⟩)
 refine ⟨_, rfl, ?_⟩; replace HS := Bx.mk (HS.out.later hb);clear hb HF a
 refine xr 5 rfl<|xne<|xsq<|xsr<|xr 2 rfl<|xne<|xcf rfl<|xsk<|xet<|xrl<|xr 2 rfl<|xy rfl (vx 161 3 1 rfl)<|xy rfl (ve encA_len HS.out 0 3 rfl rfl rfl rfl)<|xr 2 rfl ?_
 intro a HF
 refine wl_storeF rfl rfl rfl (HF.ev rfl) (HF.ev rfl) (by kernel_rfl) HS.out 2 rfl rfl rfl ?_; clear HS; intro w14 HS; replace HS := Bx.mk HS
 try dsimp only [List.set] at HS
 revert a;refine xni<|xeb<|xet<|xrl<|xy rfl (fun a HF=>yl_addI (r := 4) rfl (HF.ev rfl) (HF.ev rfl) (by decide))<|xr 1 rfl<|xne ?_
 intro a HF
 refine wc_round 2 ?_
 revert a;refine xsr<|xr 1 rfl<|xne<|xsq ?_
 intro a HF
 replace HF := HF.know (k := 26) (c := true) rfl (by decide)
 revert a;refine xct rfl<|xsk<|xet<|xsq<|xbl<|xsr<|xr 1 rfl<|xy rfl (vx 9 4 1 rfl)<|xy rfl (ve encS_len HS.out 1 4 rfl rfl rfl rfl)<|xr 2 rfl<|xne<|xsr<|xr 1 rfl ?_
 intro a HF
 refine yc (implNumGet_any x4 _ (HT.out.below HS.out.bel) (HE.out.below HS.out.bel)) HF Tryz.func147 ?_
 rintro _ w15 (⟨n11, hg11, rfl, hb⟩ | ⟨hg11, rfl, hb⟩)
 refine ⟨_, rfl, ?_⟩; replace HS := Bx.mk (HS.out.later hb);clear hb HF a
 refine xr 5 rfl<|xne<|xsq<|xsr<|xr 2 rfl<|xne<|xcf rfl<|xsk<|xet<|xrl<|xr 2 rfl<|xy rfl (vx 161 4 1 rfl)<|xy rfl (ve encA_len HS.out 0 4 rfl rfl rfl rfl)<|xr 2 rfl ?_
 intro a HF
 refine wl_storeF rfl rfl rfl (HF.ev rfl) (HF.ev rfl) (by kernel_rfl) HS.out 2 rfl rfl rfl ?_; clear HS; intro w16 HS; replace HS := Bx.mk HS
 try dsimp only [List.set] at HS
 revert a;refine xni<|xeb<|xet<|xrl<|xy rfl (fun a HF=>yl_addI (r := 5) rfl (HF.ev rfl) (HF.ev rfl) (by decide))<|xr 1 rfl<|xne ?_
 intro a HF
 refine wc_round 1 ?_
 revert a;refine xsr<|xr 1 rfl<|xne<|xsq ?_
 intro a HF
 replace HF := HF.know (k := 26) (c := false) rfl (by decide)
 revert a;refine xcf rfl<|xex<|xtx<|xtx<|xbh<|xet<|xsq<|xsr<|xy rfl (vw HS.out 2 5 rfl rfl) ?_
 intro a HF
 refine ycB (ptrPutI_any (⟨(n7 : Int), (n8 : Int), (n9 : Int), (n10 : Int), (n11 : Int)⟩ : PtrD) _ (HT.out.below HS.out.bel)) HF Tryz.func106 HS ?_; clear HF HS a; intro w17 a HS HF
 revert a;refine xr 1 rfl<|xy rfl (fun a HF=>yl_neqS rfl (HF.ev rfl) (HF.ev rfl))<|xne<|xcs 48 rfl (fun cc3=>?_) fun cc3=>?_
 refine xct rfl<|xsr<|xy rfl (vb z5 rfl) ?_
 intro a HF
 refine yst HF HS 3 ?_;clear HS;intro w18 HS
 try dsimp only [List.set] at HS
 revert a;refine xr 1 rfl<|xne<|xre<|xtr ?_
 intro a HF
 refine bp_ret2 HF Tryz.results163 (HF.resBox rfl (HS.out.box 3 rfl) (by kernel_rfl)) (HF.res rfl) ?_
 refine .inr ⟨fun q hq hqs => ?_, rfl, HS.out.bel⟩
 have hqh := ptr_dash hq hqs (by simpa using cc1); have hqp := ptr_pieces hq hqh; rw [hqs] at hqp; have hqb := PtrD.ok_all hq hqh
 rw [hws] at hqp; simp only [List.cons.injEq, and_true] at hqp; obtain ⟨k0, k1, k2, k3, k4⟩ := hqp
 rw [k0] at hg7; have j0 := num_read (n := q.fAt) (by omega) hg7
 rw [k1] at hg8; have j1 := num_read (n := q.fBirth) (by omega) hg8
 rw [k2] at hg9; have j2 := num_read (n := q.fSize) (by omega) hg9
 rw [k3] at hg10; have j3 := num_read (n := q.fSum) (by omega) hg10
 rw [k4] at hg11; have j4 := num_read (n := q.fLevel) (by omega) hg11
 have hpq : (⟨(n7 : Int), (n8 : Int), (n9 : Int), (n10 : Int), (n11 : Int)⟩ : PtrD) = q := by rw [j0, j1, j2, j3, j4]
 rw [hpq, hqs] at cc3; simp at cc3
 refine xcf rfl<|xsk<|xet<|xsr<|xy rfl (vw HS.out 2 5 rfl rfl) ?_
 intro a HF
 refine yst HF HS 3 ?_;clear HS;intro w19 HS
 try dsimp only [List.set] at HS
 revert a;refine xr 1 rfl<|xne<|xre ?_
 intro a HF
 refine bp_ret2 HF Tryz.results163 (HF.resBox rfl (HS.out.box 3 rfl) (by kernel_rfl)) (HF.res rfl) ?_
 have hpt : ptrB (⟨(n7 : Int), (n8 : Int), (n9 : Int), (n10 : Int), (n11 : Int)⟩ : PtrD) = s := bytes_toList (by simpa using cc3)
 have hpo : (⟨(n7 : Int), (n8 : Int), (n9 : Int), (n10 : Int), (n11 : Int)⟩ : PtrD).ok = true := by
     cases ho : (⟨(n7 : Int), (n8 : Int), (n9 : Int), (n10 : Int), (n11 : Int)⟩ : PtrD).ok with
     | true => rfl
     | false =>
       rw [ptrB_no ho] at hpt
       rw [← hpt] at hws
       exact absurd (congrArg List.length hws) (show ¬ (1 : Nat) = 5 by decide)
 exact .inl ⟨_, hpo, hpt, rfl, HS.out.bel⟩
 refine ⟨_, rfl, ?_⟩; replace HS := Bx.mk (HS.out.later hb);clear hb HF a
 refine xr 5 rfl<|xne<|xsq<|xsr<|xr 2 rfl<|xne<|xct rfl<|xsr<|xy rfl (vb z5 rfl) ?_
 intro a HF
 refine yst HF HS 3 ?_;clear HS;intro w20 HS
 try dsimp only [List.set] at HS
 revert a;refine xr 1 rfl<|xne<|xre<|xtr<|xbr<|xtr<|xtr<|xbr<|xtr ?_
 intro a HF
 refine bp_ret2 HF Tryz.results163 (HF.resBox rfl (HS.out.box 3 rfl) (by kernel_rfl)) (HF.res rfl) ?_
 refine .inr ⟨fun q hq hqs => ?_, rfl, HS.out.bel⟩
 have hqh := ptr_dash hq hqs (by simpa using cc1); have hqp := ptr_pieces hq hqh; rw [hqs] at hqp; have hqb := PtrD.ok_all hq hqh
 rw [hws] at hqp; simp only [List.cons.injEq, and_true] at hqp; obtain ⟨k0, k1, k2, k3, k4⟩ := hqp
 rw [k4, numG_num (by omega)] at hg11; cases hg11
 refine ⟨_, rfl, ?_⟩; replace HS := Bx.mk (HS.out.later hb);clear hb HF a
 refine xr 5 rfl<|xne<|xsq<|xsr<|xr 2 rfl<|xne<|xct rfl<|xsr<|xy rfl (vb z5 rfl) ?_
 intro a HF
 refine yst HF HS 3 ?_;clear HS;intro w21 HS
 try dsimp only [List.set] at HS
 revert a;refine xr 1 rfl<|xne<|xre<|xtr<|xbr<|xtr<|xtr<|xbr<|xtr ?_
 intro a HF
 refine bp_ret2 HF Tryz.results163 (HF.resBox rfl (HS.out.box 3 rfl) (by kernel_rfl)) (HF.res rfl) ?_
 refine .inr ⟨fun q hq hqs => ?_, rfl, HS.out.bel⟩
 have hqh := ptr_dash hq hqs (by simpa using cc1); have hqp := ptr_pieces hq hqh; rw [hqs] at hqp; have hqb := PtrD.ok_all hq hqh
 rw [hws] at hqp; simp only [List.cons.injEq, and_true] at hqp; obtain ⟨k0, k1, k2, k3, k4⟩ := hqp
 rw [k3, numG_num (by omega)] at hg10; cases hg10
 refine ⟨_, rfl, ?_⟩; replace HS := Bx.mk (HS.out.later hb);clear hb HF a
 refine xr 5 rfl<|xne<|xsq<|xsr<|xr 2 rfl<|xne<|xct rfl<|xsr<|xy rfl (vb z5 rfl) ?_
 intro a HF
 refine yst HF HS 3 ?_;clear HS;intro w22 HS
 try dsimp only [List.set] at HS
 revert a;refine xr 1 rfl<|xne<|xre<|xtr<|xbr<|xtr<|xtr<|xbr<|xtr ?_
 intro a HF
 refine bp_ret2 HF Tryz.results163 (HF.resBox rfl (HS.out.box 3 rfl) (by kernel_rfl)) (HF.res rfl) ?_
 refine .inr ⟨fun q hq hqs => ?_, rfl, HS.out.bel⟩
 have hqh := ptr_dash hq hqs (by simpa using cc1); have hqp := ptr_pieces hq hqh; rw [hqs] at hqp; have hqb := PtrD.ok_all hq hqh
 rw [hws] at hqp; simp only [List.cons.injEq, and_true] at hqp; obtain ⟨k0, k1, k2, k3, k4⟩ := hqp
 rw [k2, numG_num (by omega)] at hg9; cases hg9
 refine ⟨_, rfl, ?_⟩; replace HS := Bx.mk (HS.out.later hb);clear hb HF a
 refine xr 5 rfl<|xne<|xsq<|xsr<|xr 2 rfl<|xne<|xct rfl<|xsr<|xy rfl (vb z5 rfl) ?_
 intro a HF
 refine yst HF HS 3 ?_;clear HS;intro w23 HS
 try dsimp only [List.set] at HS
 revert a;refine xr 1 rfl<|xne<|xre<|xtr<|xbr<|xtr<|xtr<|xbr<|xtr ?_
 intro a HF
 refine bp_ret2 HF Tryz.results163 (HF.resBox rfl (HS.out.box 3 rfl) (by kernel_rfl)) (HF.res rfl) ?_
 refine .inr ⟨fun q hq hqs => ?_, rfl, HS.out.bel⟩
 have hqh := ptr_dash hq hqs (by simpa using cc1); have hqp := ptr_pieces hq hqh; rw [hqs] at hqp; have hqb := PtrD.ok_all hq hqh
 rw [hws] at hqp; simp only [List.cons.injEq, and_true] at hqp; obtain ⟨k0, k1, k2, k3, k4⟩ := hqp
 rw [k1, numG_num (by omega)] at hg8; cases hg8
 refine ⟨_, rfl, ?_⟩; replace HS := Bx.mk (HS.out.later hb);clear hb HF a
 refine xr 5 rfl<|xne<|xsq<|xsr<|xr 2 rfl<|xne<|xct rfl<|xsr<|xy rfl (vb z5 rfl) ?_
 intro a HF
 refine yst HF HS 3 ?_;clear HS;intro w24 HS
 try dsimp only [List.set] at HS
 revert a;refine xr 1 rfl<|xne<|xre<|xtr<|xbr<|xtr<|xtr<|xbr<|xtr ?_
 intro a HF
 refine bp_ret2 HF Tryz.results163 (HF.resBox rfl (HS.out.box 3 rfl) (by kernel_rfl)) (HF.res rfl) ?_
 refine .inr ⟨fun q hq hqs => ?_, rfl, HS.out.bel⟩
 have hqh := ptr_dash hq hqs (by simpa using cc1); have hqp := ptr_pieces hq hqh; rw [hqs] at hqp; have hqb := PtrD.ok_all hq hqh
 rw [hws] at hqp; simp only [List.cons.injEq, and_true] at hqp; obtain ⟨k0, k1, k2, k3, k4⟩ := hqp
 rw [k0, numG_num (by omega)] at hg7; cases hg7
open Go.RowKit Go.Lib
def comB : ByteArray := ⟨#[44]⟩
def fanB (l : List PtrD) : ByteArray := joinT (l.map ptrB) comB
theorem splitL_joinL (c : UInt8) : ∀ (x : List UInt8) (r : List (List UInt8)), (∀ y ∈ x :: r, ∀ b ∈ y, b ≠ c) → splitL c (Go.Lib.join (x :: r) [c]) = x :: r
  | x, [], h => by
    rw [show Go.Lib.join [x] [c] = x by simp [Go.Lib.join, Go.Lib.joinTail]]
    exact splitL_none c x (h x (List.mem_cons_self ..))
  | x, y :: r, h => by
    have e : Go.Lib.join (x :: y :: r) [c] = x ++ c :: Go.Lib.join (y :: r) [c] := by simp [Go.Lib.join, Go.Lib.joinTail]
    rw [e, splitL_app c _ x (h x (List.mem_cons_self ..)), splitL_joinL c y r fun z hz => h z (List.mem_cons_of_mem _ hz)]
theorem pieces_join {l : List ByteArray} {c : UInt8} (hne : l ≠ []) (h : ∀ y ∈ l, ∀ b ∈ y.data.toList, b ≠ c) : piecesB (joinT l ⟨#[c]⟩) c = l := by
  match l, hne with
  | x :: r, _ =>
    unfold piecesB joinT
    show (splitL c (Go.Lib.join ((x :: r).map (·.data.toList)) [c])).map _ = _
    rw [List.map_cons, splitL_joinL c _ _ (fun y hy b hb => by
      rcases List.mem_cons.1 hy with rfl | hy
      · exact h x (List.mem_cons_self ..) b hb
      · obtain ⟨z, hz, rfl⟩ := List.mem_map.1 hy
        exact h z (List.mem_cons_of_mem _ hz) b hb), ← List.map_cons (f := fun y : ByteArray => y.data.toList)]
    exact map_back (x :: r)
theorem dec_not (c : UInt8) (hc : digitVal c = none) (n : Nat) : ∀ x ∈ (decB n).data.toList, x ≠ c := by
  intro x hx e
  subst e
  obtain ⟨d, hd⟩ := digits_all n x (by rw [← decB_list]; exact hx)
  rw [hc] at hd
  cases hd
theorem num_not (c : UInt8) (hc : digitVal c = none) (n : Int) : ∀ x ∈ (numB n).data.toList, x ≠ c := by
  unfold numB
  split
  · exact dec_not c hc _
  · intro x hx; simp at hx
theorem ptr_no44 (p : PtrD) : ∀ x ∈ (ptrB p).data.toList, x ≠ 44 := by
  cases h : p.ok with
  | false => rw [ptrB_no h]; intro x hx; simp at hx
  | true =>
    cases hh : p.hole with
    | true => rw [ptrB_hole h hh]; intro x hx; rw [show x = 45 from by simpa using hx]; decide
    | false =>
      rw [ptrB_yes h hh]
      intro x hx
      have hn := fun n => num_not 44 (by decide) n x
      simp only [list_append, List.mem_append, show dotB.data.toList = [46] from rfl, List.mem_singleton] at hx
      rcases hx with (((((((hx | hx) | hx) | hx) | hx) | hx) | hx) | hx) | hx
      all_goals first | exact hn _ hx | (rw [hx]; decide)
theorem fan_pieces {l : List PtrD} (hne : l ≠ []) : piecesB (fanB l) 44 = l.map ptrB := by
  refine pieces_join (by simpa using hne) fun y hy => ?_
  obtain ⟨p, _, rfl⟩ := List.mem_map.1 hy
  exact ptr_no44 p
structure IsFan (s : ByteArray) (l : List PtrD) : Prop where
  n : l.length = 4
  ok : ∀ p ∈ l, p.ok = true
  some : l.all (fun p => p.hole) = false
  is : fanB l = s
theorem map_inj {l m : List PtrD} (hl : ∀ p ∈ l, p.ok = true) (hm : ∀ p ∈ m, p.ok = true) (h : l.map ptrB = m.map ptrB) : l = m := by
  induction l generalizing m with
  | nil => cases m with
    | nil => rfl
    | cons _ _ => simp at h
  | cons p l ih => cases m with
    | nil => simp at h
    | cons q m =>
      simp only [List.map_cons, List.cons.injEq] at h
      rw [ptrB_inj (hl p (List.mem_cons_self ..)) (hm q (List.mem_cons_self ..)) h.1, ih (fun x hx => hl x (List.mem_cons_of_mem _ hx)) (fun x hx => hm x (List.mem_cons_of_mem _ hx)) h.2]
theorem IsFan.one {s : ByteArray} {l m : List PtrD} (h : IsFan s l) (k : IsFan s m) : l = m := by
  refine map_inj h.ok k.ok ?_
  rw [← fan_pieces (l := l) (fun e => by have := h.n; rw [e] at this; cases this), ← fan_pieces (l := m) (fun e => by have := k.n; rw [e] at this; cases this), h.is, k.is]
theorem IsFan.pieces {s : ByteArray} {l : List PtrD} (h : IsFan s l) : piecesB s 44 = l.map ptrB := by
  rw [← h.is]
  exact fan_pieces fun e => by have := h.n; rw [e] at this; cases this
open Classical in
noncomputable def fanG (s : ByteArray) : Option (List PtrD) := if h : ∃ l, IsFan s l then some h.choose else none
theorem fanG_yes {s : ByteArray} {l : List PtrD} (h : IsFan s l) : fanG s = some l := by
  have he : ∃ l, IsFan s l := ⟨l, h⟩
  unfold fanG
  rw [dif_pos he, he.choose_spec.one h]
theorem fanG_no {s : ByteArray} (h : ∀ l, ¬ IsFan s l) : fanG s = none := by
  unfold fanG
  rw [dif_neg fun ⟨l, hl⟩ => h l hl]
open Go.RowKit
def fitsB (p : PtrD) (s : ByteArray) : Bool := p.ok && (!p.hole && ((p.fSize == (s.size : Int)) && (p.fSum == sumOf s)))
def rowAt (st : StoreD) (p : PtrD) : ByteArray := st.fRows.getD p.fAt.toNat ByteArray.empty
def readT (st : StoreD) (p : PtrD) : ByteArray := bif p.hole then ByteArray.empty else bif fitsB p (rowAt st p) then rowAt st p else ByteArray.empty
def readB (st : StoreD) (p : PtrD) : Bool := bif p.hole then true else fitsB p (rowAt st p)
theorem readT_hole {st : StoreD} {p : PtrD} (h : p.hole = true) : readT st p = ByteArray.empty := by unfold readT; rw [h]; rfl
theorem readB_hole {st : StoreD} {p : PtrD} (h : p.hole = true) : readB st p = true := by unfold readB; rw [h]; rfl
theorem readT_yes {st : StoreD} {p : PtrD} (h : p.hole = false) (hf : fitsB p (rowAt st p) = true) : readT st p = rowAt st p := by unfold readT; rw [h, hf]; rfl
theorem readT_no {st : StoreD} {p : PtrD} (h : p.hole = false) (hf : fitsB p (rowAt st p) = false) : readT st p = ByteArray.empty := by unfold readT; rw [h, hf]; rfl
theorem readB_is {st : StoreD} {p : PtrD} (h : p.hole = false) : readB st p = fitsB p (rowAt st p) := by unfold readB; rw [h]; rfl
def holes4 : List PtrD := [PtrD.zero, PtrD.zero, PtrD.zero, PtrD.zero]
noncomputable def kids (st : StoreD) (p : PtrD) (level : Int) : Option (List PtrD) :=
  bif p.hole then some holes4 else bif readB st p && (p.fLevel == level) then (fanG (readT st p)).bind fun l => bif l.any (fun k => decide (p.fBirth < k.fBirth)) then none else some l else none
noncomputable def kidsS (st : StoreD) (p : PtrD) (level : Int) : Option (List PtrD) :=
  bif p.hole then some holes4 else bif p.ok && ((p.fLevel == level) && decide (p.fBirth ≤ st.fTxg)) then kids st p level else none
theorem kids_hole {st : StoreD} {p : PtrD} {n : Int} (h : p.hole = true) : kids st p n = some holes4 := by unfold kids; rw [h]; rfl
theorem kidsS_hole {st : StoreD} {p : PtrD} {n : Int} (h : p.hole = true) : kidsS st p n = some holes4 := by unfold kidsS; rw [h]; rfl
theorem kids_unread {st : StoreD} {p : PtrD} {n : Int} (h : p.hole = false) (hr : readB st p = false) : kids st p n = none := by unfold kids; rw [h, hr]; rfl
theorem kids_level {st : StoreD} {p : PtrD} {n : Int} (h : p.hole = false) (hr : (p.fLevel == n) = false) : kids st p n = none := by unfold kids; rw [h, hr, Bool.and_false]; rfl
theorem kids_nofan {st : StoreD} {p : PtrD} {n : Int} (h : p.hole = false) (hf : ∀ l, ¬ IsFan (readT st p) l) : kids st p n = none := by
  unfold kids
  rw [h, fanG_no hf]
  cases (readB st p && (p.fLevel == n)) <;> rfl
theorem kids_born {st : StoreD} {p : PtrD} {n : Int} {l : List PtrD} (h : p.hole = false) (hf : IsFan (readT st p) l) (hb : l.any (fun k => decide (p.fBirth < k.fBirth)) = true) : kids st p n = none := by
  unfold kids
  rw [h, fanG_yes hf]
  cases (readB st p && (p.fLevel == n))
  · rfl
  · simp only [cond_true, cond_false, Option.bind_some, hb]
theorem kids_yes {st : StoreD} {p : PtrD} {n : Int} {l : List PtrD} (h : p.hole = false) (hr : readB st p = true) (hn : (p.fLevel == n) = true) (hf : IsFan (readT st p) l) (hb : l.any (fun k => decide (p.fBirth < k.fBirth)) = false) : kids st p n = some l := by
  unfold kids
  rw [h, fanG_yes hf, hr, hn]
  simp only [cond_true, cond_false, Option.bind_some, hb, Bool.and_self]
theorem kids_are {st : StoreD} {p : PtrD} {n : Int} {l : List PtrD} (h : kids st p n = some l) : l.length = 4 ∧ (∀ k ∈ l, k.ok = true) ∧ (p.hole = true ∧ l = holes4 ∨ p.hole = false ∧ p.fLevel = n ∧ readB st p = true ∧ IsFan (readT st p) l ∧ ∀ k ∈ l, k.fBirth ≤ p.fBirth) := by
  cases hh : p.hole with
  | true =>
    rw [kids_hole hh] at h
    obtain rfl := Option.some.inj h
    exact ⟨rfl, fun k hk => by simp only [holes4, List.mem_cons, List.not_mem_nil, or_false, or_self] at hk; rw [hk]; rfl, .inl ⟨rfl, rfl⟩⟩
  | false =>
    cases hr : readB st p with
    | false => rw [kids_unread hh hr] at h; cases h
    | true =>
      cases hn : (p.fLevel == n) with
      | false => rw [kids_level hh hn] at h; cases h
      | true =>
        by_cases hf : ∃ m, IsFan (readT st p) m
        · obtain ⟨m, hm⟩ := hf
          cases hb : m.any (fun k => decide (p.fBirth < k.fBirth)) with
          | true => rw [kids_born hh hm hb] at h; cases h
          | false =>
            rw [kids_yes hh hr hn hm hb] at h
            obtain rfl := Option.some.inj h
            refine ⟨hm.n, hm.ok, .inr ⟨rfl, eq_of_beq hn, rfl, hm, fun k hk => ?_⟩⟩
            have := (List.any_eq_false.1 hb) k hk
            have := of_decide_eq_false (by simpa using this : decide (p.fBirth < k.fBirth) = false)
            omega
        · rw [kids_nofan hh fun l hl => hf ⟨l, hl⟩] at h; cases h
theorem kidsS_eq {st : StoreD} {p : PtrD} {n : Int} (hp : p.ok = true) (hb : p.fBirth ≤ st.fTxg) : kidsS st p n = kids st p n := by
  unfold kidsS
  rw [hp, decide_eq_true hb, Bool.and_true, Bool.true_and]
  cases hh : p.hole with
  | true => rw [kids_hole hh]; rfl
  | false =>
    cases hn : (p.fLevel == n) with
    | false => rw [kids_level hh hn]; rfl
    | true => rfl
theorem kidsS_no {st : StoreD} {p : PtrD} {n : Int} (h : p.hole = false) (hn : (p.ok && ((p.fLevel == n) && decide (p.fBirth ≤ st.fTxg))) = false) : kidsS st p n = none := by unfold kidsS; rw [h, hn]; rfl
theorem kidsS_are {st : StoreD} {p : PtrD} {n : Int} {l : List PtrD} (h : kidsS st p n = some l) : kids st p n = some l ∧ (p.hole = false → p.ok = true ∧ p.fBirth ≤ st.fTxg) := by
  cases hh : p.hole with
  | true => rw [kidsS_hole hh] at h; rw [kids_hole hh]; exact ⟨h, fun e => by cases e⟩
  | false =>
    cases hc : (p.ok && ((p.fLevel == n) && decide (p.fBirth ≤ st.fTxg))) with
    | false => rw [kidsS_no hh hc] at h; cases h
    | true =>
      unfold kidsS at h
      rw [hh, hc] at h
      simp only [Bool.and_eq_true, decide_eq_true_eq] at hc
      exact ⟨h, fun _ => ⟨hc.1, hc.2.2⟩⟩
noncomputable def nextL (f : PtrD → Option (List PtrD)) : List PtrD → Option (List PtrD)
  | [] => some []
  | p :: r => (f p).bind fun k => (nextL f r).map (k ++ ·)
theorem nextL_no {f : PtrD → Option (List PtrD)} {p : PtrD} {r : List PtrD} (h : f p = none) : nextL f (p :: r) = none := by show Option.bind _ _ = _; rw [h]; rfl
theorem nextL_yes {f : PtrD → Option (List PtrD)} {p : PtrD} {r k : List PtrD} (h : f p = some k) : nextL f (p :: r) = (nextL f r).map (k ++ ·) := by show Option.bind _ _ = _; rw [h]; rfl
theorem map_app {o : Option (List PtrD)} (a b : List PtrD) : (o.map (b ++ ·)).map (a ++ ·) = o.map ((a ++ b) ++ ·) := by cases o <;> simp
theorem nextL_mem {f : PtrD → Option (List PtrD)} : ∀ {l m : List PtrD}, nextL f l = some m → (∀ p ∈ l, ∃ k, f p = some k) ∧ (∀ q ∈ m, ∃ p ∈ l, ∃ k, f p = some k ∧ q ∈ k) ∧ (∀ p ∈ l, ∀ k, f p = some k → ∀ q ∈ k, q ∈ m)
  | [], m, h => by
    obtain rfl : [] = m := Option.some.inj h
    exact ⟨fun p hp => (nomatch hp), fun p hp => (nomatch hp), fun p hp => (nomatch hp)⟩
  | p :: r, m, h => by
    cases hk : f p with
    | none => rw [nextL_no hk] at h; cases h
    | some k =>
      rw [nextL_yes hk] at h
      cases hn : nextL f r with
      | none => rw [hn] at h; cases h
      | some n =>
        rw [hn] at h
        obtain rfl : k ++ n = m := Option.some.inj h
        obtain ⟨i1, i2, i3⟩ := nextL_mem hn
        refine ⟨fun q hq => ?_, fun q hq => ?_, fun q hq k2 hk2 x hx => ?_⟩
        · rcases List.mem_cons.1 hq with rfl | hq
          · exact ⟨k, hk⟩
          · exact i1 q hq
        · rcases List.mem_append.1 hq with hq | hq
          · exact ⟨p, List.mem_cons_self .., k, hk, hq⟩
          · obtain ⟨y, hy, z, hz, hq⟩ := i2 q hq
            exact ⟨y, List.mem_cons_of_mem _ hy, z, hz, hq⟩
        · rcases List.mem_cons.1 hq with rfl | hq
          · rw [hk] at hk2
            obtain rfl := Option.some.inj hk2
            exact List.mem_append_left _ hx
          · exact List.mem_append_right _ (i3 q hq k2 hk2 x hx)
theorem nextL_len {f : PtrD → Option (List PtrD)} (hf : ∀ p k, f p = some k → k.length = 4) : ∀ {l m : List PtrD}, nextL f l = some m → m.length = 4 * l.length
  | [], m, h => by obtain rfl : [] = m := Option.some.inj h; rfl
  | p :: r, m, h => by
    cases hk : f p with
    | none => rw [nextL_no hk] at h; cases h
    | some k =>
      rw [nextL_yes hk] at h
      cases hn : nextL f r with
      | none => rw [hn] at h; cases h
      | some n =>
        rw [hn] at h
        obtain rfl : k ++ n = m := Option.some.inj h
        have := nextL_len hf hn
        rw [List.length_append, hf p k hk, List.length_cons]; omega
noncomputable def downL (f : PtrD → Int → Option (List PtrD)) : Nat → List PtrD → Option (List PtrD)
  | 0, l => some l
  | n + 1, l => (nextL (fun p => f p ((n + 1 : Nat) : Int)) l).bind (downL f n)
theorem downL_no {f : PtrD → Int → Option (List PtrD)} {n : Nat} {l : List PtrD} (h : nextL (fun p => f p ((n + 1 : Nat) : Int)) l = none) : downL f (n + 1) l = none := by show Option.bind _ _ = _; rw [h]; rfl
theorem downL_yes {f : PtrD → Int → Option (List PtrD)} {n : Nat} {l m : List PtrD} (h : nextL (fun p => f p ((n + 1 : Nat) : Int)) l = some m) : downL f (n + 1) l = downL f n m := by show Option.bind _ _ = _; rw [h]; rfl
theorem downL_len {f : PtrD → Int → Option (List PtrD)} (hf : ∀ p n k, f p n = some k → k.length = 4) : ∀ {n : Nat} {l m : List PtrD}, downL f n l = some m → m.length = 4 ^ n * l.length
  | 0, l, m, h => by obtain rfl : l = m := Option.some.inj h; omega
  | n + 1, l, m, h => by
    cases hn : nextL (fun p => f p ((n + 1 : Nat) : Int)) l with
    | none => rw [downL_no hn] at h; cases h
    | some x =>
      rw [downL_yes hn] at h
      rw [downL_len hf h, nextL_len (fun p k => hf p _ k) hn, Nat.pow_succ, Nat.mul_assoc]
def depthN (many : Int) : Nat := if many ≤ 1 then 0 else if many ≤ 4 then 1 else 2
theorem depthN_le (many : Int) : depthN many ≤ 2 := by unfold depthN; split <;> (try split) <;> omega
theorem depthN_fan {many : Int} (h : many ≤ 16) : many ≤ ((4 ^ depthN many : Nat) : Int) := by
  unfold depthN
  split
  · simp; omega
  · split
    · simp; omega
    · simp; omega
def leafB (st : StoreD) (many : Int) (i : Nat) (p : PtrD) : Bool := bif p.hole then p.fLevel == 0 else readB st p && ((p.fLevel == 0) && decide ((i : Int) < many))
def leavesB (st : StoreD) (many : Int) : Nat → List PtrD → Bool
  | _, [] => true
  | i, p :: r => leafB st many i p && leavesB st many (i + 1) r
def topB (st : StoreD) (t : TreeD) : Bool := inB t.fMany 0 16 && ((t.fDepth == (depthN t.fMany : Int)) && (t.fRoot.ok && decide (t.fRoot.fBirth ≤ st.fTxg)))
noncomputable def leavesF (st : StoreD) (t : TreeD) : Option (List PtrD) :=
  bif topB st t then (downL (kids st) (depthN t.fMany) [t.fRoot]).bind fun l => bif leavesB st t.fMany 0 l then some (l.take t.fMany.toNat) else none else none
noncomputable def treeOk (st : StoreD) (t : TreeD) : Bool := (leavesF st t).isSome
theorem leavesF_top {st : StoreD} {t : TreeD} (h : topB st t = false) : leavesF st t = none := by unfold leavesF; rw [h]; rfl
theorem leavesF_down {st : StoreD} {t : TreeD} (h : downL (kids st) (depthN t.fMany) [t.fRoot] = none) : leavesF st t = none := by
  unfold leavesF
  cases topB st t
  · rfl
  · rw [h]; rfl
theorem leavesF_bad {st : StoreD} {t : TreeD} {l : List PtrD} (h : downL (kids st) (depthN t.fMany) [t.fRoot] = some l) (hb : leavesB st t.fMany 0 l = false) : leavesF st t = none := by
  unfold leavesF
  cases topB st t
  · rfl
  · rw [h]
    simp only [cond_true, cond_false, Option.bind_some, hb]
theorem leavesF_yes {st : StoreD} {t : TreeD} {l : List PtrD} (h0 : topB st t = true) (h : downL (kids st) (depthN t.fMany) [t.fRoot] = some l) (hb : leavesB st t.fMany 0 l = true) : leavesF st t = some (l.take t.fMany.toNat) := by
  unfold leavesF
  rw [h0, h]
  simp only [cond_true, cond_false, Option.bind_some, hb]
theorem kids_len {st : StoreD} {p : PtrD} {n : Int} {k : List PtrD} (h : kids st p n = some k) : k.length = 4 := (kids_are h).1
theorem leavesF_is {st : StoreD} {t : TreeD} {r : List PtrD} (h : leavesF st t = some r) : ∃ l, topB st t = true ∧ downL (kids st) (depthN t.fMany) [t.fRoot] = some l ∧ leavesB st t.fMany 0 l = true ∧ r = l.take t.fMany.toNat ∧ l.length = 4 ^ depthN t.fMany ∧ r.length = t.fMany.toNat := by
  cases h0 : topB st t with
  | false => rw [leavesF_top h0] at h; cases h
  | true =>
    cases h1 : downL (kids st) (depthN t.fMany) [t.fRoot] with
    | none => rw [leavesF_down h1] at h; cases h
    | some l =>
      cases h2 : leavesB st t.fMany 0 l with
      | false => rw [leavesF_bad h1 h2] at h; cases h
      | true =>
        rw [leavesF_yes h0 h1 h2] at h
        obtain rfl := Option.some.inj h
        have hl : l.length = 4 ^ depthN t.fMany := by rw [downL_len (fun p n k => kids_len) h1]; simp
        refine ⟨l, rfl, rfl, h2, rfl, hl, ?_⟩
        unfold topB at h0
        rw [Bool.and_eq_true] at h0
        have hi := inB_true h0.1
        have := depthN_fan hi.2
        rw [List.length_take, hl]
        omega
noncomputable def allL (st : StoreD) : Nat → PtrD → List PtrD
  | 0, p => bif p.hole then [] else [p]
  | n + 1, p => bif p.hole then [] else p :: ((kids st p ((n + 1 : Nat) : Int)).getD []).flatMap (allL st n)
theorem allL_hole {st : StoreD} {p : PtrD} (h : p.hole = true) : ∀ n, allL st n p = []
  | 0 => by unfold allL; rw [h]; rfl
  | n + 1 => by unfold allL; rw [h]; rfl
def Wf (st : StoreD) : Nat → PtrD → Prop
  | 0, p => p.ok = true ∧ p.fBirth ≤ st.fTxg ∧ p.fLevel = 0 ∧ readB st p = true
  | n + 1, p => p.ok = true ∧ p.fBirth ≤ st.fTxg ∧ ∃ l, kids st p ((n + 1 : Nat) : Int) = some l ∧ ∀ k ∈ l, Wf st n k
theorem Wf.ok {st : StoreD} : ∀ {n : Nat} {p : PtrD}, Wf st n p → p.ok = true ∧ p.fBirth ≤ st.fTxg
  | 0, _, h => ⟨h.1, h.2.1⟩
  | _ + 1, _, h => ⟨h.1, h.2.1⟩
theorem Wf.level {st : StoreD} : ∀ {n : Nat} {p : PtrD}, Wf st n p → p.hole = false → p.fLevel = (n : Int)
  | 0, _, h, _ => h.2.2.1
  | n + 1, p, ⟨_, _, l, hk, _⟩, hh => by
    rcases (kids_are hk).2.2 with ⟨e, _⟩ | ⟨_, e, _⟩
    · rw [hh] at e; cases e
    · exact e
theorem Wf.zero {st : StoreD} (h0 : 0 ≤ st.fTxg) : ∀ n, Wf st n PtrD.zero
  | 0 => ⟨rfl, h0, rfl, rfl⟩
  | n + 1 => ⟨rfl, h0, holes4, kids_hole rfl, fun k hk => by
    simp only [holes4, List.mem_cons, List.not_mem_nil, or_false, or_self] at hk
    rw [hk]; exact Wf.zero h0 n⟩
open Go.RowKit
section
variable {P : Program} {o : Oper} {a : Act} {w : World} {e : TypeId}
theorem yl_sliceLH {t : TypeId} {x y z : Operand} (ho : o.op = .slice t x (some y) (some z) none) {g off n cap : Nat} (hx : a.eval x = .slice (some ⟨g, off, none⟩) n cap) {kk kl : IntKind} {m l : Int} (hy : a.eval y = .int kk m) (hz : a.eval z = .int kl l) {size : Nat} (hu : elemOf? P t = some (e, size)) {k j : Nat} (hm : m = (k : Int)) (hl : l = (j : Int)) (hk : k ≤ j) (hj : j ≤ cap) (hc : k < cap) : Yl P w o a (.slice (some ⟨g, off + k * size, none⟩) (j - k) (cap - k)) := by
  unfold elemOf? at hu
  split at hu
  · rename_i e' hu'
    split at hu
    · rename_i inf hq
      simp only [Option.some.injEq, Prod.mk.injEq] at hu
      obtain ⟨_, rfl⟩ := hu
      subst hm; subst hl
      have h2 : ((k : Int) ≤ (j : Int)) := by omega
      have h4 : ((j : Int) ≤ (cap : Int)) := by omega
      have h3 : ¬ cap = k := by omega
      unfold Yl execOp
      simp only [ho, hx, hy, hz, Option.map_some, Option.map_none, Instr.sliceAt, Instr.slice, Sem.run_bind, run_underlying hu' w, Result.andThen_ok]
      simp [Instr.slice, Instr.sliceBounds, Instr.sliceBound, asIntOf, go_sem, run_underlying hu' w, sizeOf, typeInfo, hq, h2, h3, h4, Addr.add]
      rw [if_pos hj]
      by_cases hz : k * inf.size = 0
      · rw [if_pos hz, if_pos hk, hz, Nat.add_zero]
      · rw [if_neg hz, if_pos hk]
    · cases hu
  · cases hu
end
theorem num_back {y : ByteArray} {n : Nat} (h : numG y = some n) : 0 ≤ (n : Int) ∧ (n : Int) ≤ 999999999 ∧ numB (n : Int) = y := by
  have h1 := numG_some h
  refine ⟨by omega, by omega, ?_⟩
  rw [numB_in (by omega) (by omega), Int.toNat_natCast, h1.2]
structure IsTree (x y z : ByteArray) (t : TreeD) : Prop where
  ok : t.fRoot.ok = true
  p : ptrB t.fRoot = x
  d : 0 ≤ t.fDepth ∧ t.fDepth ≤ 999999999 ∧ numB t.fDepth = y
  m : 0 ≤ t.fMany ∧ t.fMany ≤ 999999999 ∧ numB t.fMany = z
theorem num_one {m n : Int} {y : ByteArray} (h : 0 ≤ m ∧ m ≤ 999999999 ∧ numB m = y) (k : 0 ≤ n ∧ n ≤ 999999999 ∧ numB n = y) : m = n := by
  have h1 := numG_num ⟨h.1, h.2.1⟩
  have h2 := numG_num ⟨k.1, k.2.1⟩
  rw [h.2.2] at h1
  rw [k.2.2, h1] at h2
  have := Option.some.inj h2
  omega
theorem IsTree.one {x y z : ByteArray} {t u : TreeD} (h : IsTree x y z t) (k : IsTree x y z u) : t = u := by
  have h1 := ptrB_inj h.ok k.ok (h.p.trans k.p.symm)
  have h2 := num_one h.d k.d
  have h3 := num_one h.m k.m
  cases t; cases u
  simp only at h1 h2 h3
  rw [h1, h2, h3]
theorem no_num {y : ByteArray} {n : Int} (h : 0 ≤ n ∧ n ≤ 999999999 ∧ numB n = y) (hg : numG y = none) : False := by
  have := numG_num ⟨h.1, h.2.1⟩
  rw [h.2.2, hg] at this
  cases this
theorem rec_size (y : ByteArray) (ys : List ByteArray) : (recB (y :: ys)).size = (decB y.size).size + 1 + y.size + (recB ys).size := by
  have h := congrArg List.length (recB_cons y ys)
  rw [← size_list, List.length_append, List.length_cons, List.length_append, ← size_list, ← size_list, ← size_list] at h
  omega
theorem rec_le {y : ByteArray} {ys : List ByteArray} {B : Nat} (h : y.size ≤ 100) (hb : (recB ys).size ≤ B) : (recB (y :: ys)).size ≤ B + 110 := by
  rw [rec_size]
  have := decB_9 (n := y.size) (by omega)
  omega
theorem RootD.all {x : RootD} (h : x.ok = true) : (1 ≤ x.fTxg ∧ x.fTxg ≤ 900) ∧ x.fMeta.fRoot.ok = true ∧ (0 ≤ x.fMeta.fDepth ∧ x.fMeta.fDepth ≤ 2) ∧ (1 ≤ x.fMeta.fMany ∧ x.fMeta.fMany ≤ 16) := by
  unfold RootD.ok at h
  cases h1 : inB x.fTxg 1 900 with
  | false => rw [h1] at h; cases h
  | true =>
    cases h2 : x.fMeta.fRoot.ok with
    | false => rw [h1, h2] at h; cases h
    | true =>
      cases h3 : inB x.fMeta.fDepth 0 2 with
      | false => rw [h1, h2, h3] at h; cases h
      | true =>
        rw [h1, h2, h3] at h
        have k1 := inB_true h1
        have k3 := inB_true h3
        have k4 := inB_true (show inB x.fMeta.fMany 1 16 = true from h)
        exact ⟨by omega, rfl, by omega, by omega⟩
theorem treeOf_any (a0 : Option Addr) (c0 : Nat) (x y z : ByteArray) (w0 : World) (hT : TabP w0) (hM : MaxP w0) (hE : ErrP w0) (hx : x.size ≤ 4294967280) (hR : Rd encS 1 w0 a0 3 [x, y, z]) : Calls Tryz.prog 148 #[.slice a0 3 c0] w0 fun e w' => (∃ t : TreeD, IsTree x y z t ∧ e = .returned (.tuple #[tV t, .bool true]) ∧ Below w0.heap.size w0 w') ∨ (∃ t : TreeD, (∀ u, IsTree x y z u → False) ∧ e = .returned (.tuple #[tV t, .bool false]) ∧ Below w0.heap.size w0 w') := by
 have HT := Bx.mk hT; have HM := Bx.mk hM; have HE := Bx.mk hE; clear hT hM hE
 obtain ⟨g0, o0, r0⟩ := hR.opn; have R0 := Bx.mk r0; clear r0 hR
 have HS := Bx.mk (St.start w0)
 refine wc_enter Tryz.func148 rfl Tryz.ntmps148 [(0, .slice a0 3 c0)] ⟨rfl, trivial⟩ rfl ?_
 refine xsr ?_
 intro a HF
 refine yal z7 HF HS ?_;clear HF HS a;intro a w1 b1 HF HS
 revert a;refine xr 1 rfl<|xne<|xsr<|xr 1 rfl<|xy rfl (vxr 9 0 1 rfl (R0.out.ao 0 (by omega)))<|xy rfl (fun a HF=>ylo (v := .string x) rfl (HF.ev rfl) (R0.out.elem1 HS.out (show ([x, y, z] : List _)[0]? = some _ from rfl) rfl)) ?_
 intro a HF
 refine yc (ptrGet_any x _ (HT.out.below HS.out.bel) (HM.out.below HS.out.bel) (HE.out.below HS.out.bel) (by omega)) HF Tryz.func163 ?_
 rintro _ w2 (⟨p2, hpo2, hpt2, rfl, hb⟩ | ⟨hpn2, rfl, hb⟩)
 refine ⟨_, rfl, ?_⟩; replace HS := Bx.mk (HS.out.later hb);clear hb HF a
 refine xr 3 rfl ?_
 intro a HF
 refine yal z5 HF HS ?_;clear HF HS a;intro a w3 b3 HF HS
 refine yst HF HS 0 ?_;clear HS;intro w4 HS
 try dsimp only [List.set] at HS
 revert a;refine xr 1 rfl<|xne<|xsr<|xr 1 rfl<|xy rfl (vxr 9 1 1 rfl (R0.out.ao 1 (by omega)))<|xy rfl (fun a HF=>ylo (v := .string y) rfl (HF.ev rfl) (R0.out.elem1 HS.out (show ([x, y, z] : List _)[1]? = some _ from rfl) rfl)) ?_
 intro a HF
 refine yc (implNumGet_any y _ (HT.out.below HS.out.bel) (HE.out.below HS.out.bel)) HF Tryz.func147 ?_
 rintro _ w5 (⟨n4, hg4, rfl, hb⟩ | ⟨hg4, rfl, hb⟩)
 refine ⟨_, rfl, ?_⟩; replace HS := Bx.mk (HS.out.later hb);clear hb HF a
 refine xr 5 rfl<|xne<|xsr<|xr 1 rfl<|xy rfl (vxr 9 2 1 rfl (R0.out.ao 2 (by omega)))<|xy rfl (fun a HF=>ylo (v := .string z) rfl (HF.ev rfl) (R0.out.elem1 HS.out (show ([x, y, z] : List _)[2]? = some _ from rfl) rfl)) ?_
 intro a HF
 refine yc (implNumGet_any z _ (HT.out.below HS.out.bel) (HE.out.below HS.out.bel)) HF Tryz.func147 ?_
 rintro _ w6 (⟨n5, hg5, rfl, hb⟩ | ⟨hg5, rfl, hb⟩)
 refine ⟨_, rfl, ?_⟩; replace HS := Bx.mk (HS.out.later hb);clear hb HF a
 refine xr 5 rfl<|xne<|xsr<|xy rfl (vw HS.out 0 5 rfl rfl)<|xr 2 rfl<|xy rfl (vb [.int .i64 p2.fAt, .int .i64 p2.fBirth, .int .i64 p2.fSize, .int .i64 p2.fSum, .int .i64 p2.fLevel, .int .i64 (n4 : Int), .int .i64 (n5 : Int)] rfl)<|xr 7 rfl ?_
 intro a HF
 refine yst HF HS 1 ?_;clear HS;intro w7 HS
 try dsimp only [List.set] at HS
 revert a;refine xr 1 rfl<|xne<|xre ?_
 intro a HF
 refine bp_ret2 HF Tryz.results148 (HF.resBox rfl (HS.out.box 1 rfl) (by kernel_rfl)) (HF.res rfl) ?_
 exact .inl ⟨⟨p2, (n4 : Int), (n5 : Int)⟩, ⟨hpo2, hpt2, num_back hg4, num_back hg5⟩, rfl, HS.out.bel⟩
 refine ⟨_, rfl, ?_⟩; replace HS := Bx.mk (HS.out.later hb);clear hb HF a
 refine xr 5 rfl<|xne<|xsr<|xy rfl (vw HS.out 0 5 rfl rfl)<|xr 2 rfl<|xy rfl (vb [.int .i64 p2.fAt, .int .i64 p2.fBirth, .int .i64 p2.fSize, .int .i64 p2.fSum, .int .i64 p2.fLevel, .int .i64 (n4 : Int), .int .i64 0] rfl)<|xr 7 rfl ?_
 intro a HF
 refine yst HF HS 1 ?_;clear HS;intro w8 HS
 try dsimp only [List.set] at HS
 revert a;refine xr 1 rfl<|xne<|xre ?_
 intro a HF
 refine bp_ret2 HF Tryz.results148 (HF.resBox rfl (HS.out.box 1 rfl) (by kernel_rfl)) (HF.res rfl) ?_
 exact .inr ⟨⟨⟨p2.fAt, p2.fBirth, p2.fSize, p2.fSum, p2.fLevel⟩, (n4 : Int), 0⟩, fun u hu => no_num hu.m hg5, rfl, HS.out.bel⟩
 refine ⟨_, rfl, ?_⟩; replace HS := Bx.mk (HS.out.later hb);clear hb HF a
 refine xr 5 rfl<|xne<|xsr<|xr 1 rfl<|xy rfl (vxr 9 2 1 rfl (R0.out.ao 2 (by omega)))<|xy rfl (fun a HF=>ylo (v := .string z) rfl (HF.ev rfl) (R0.out.elem1 HS.out (show ([x, y, z] : List _)[2]? = some _ from rfl) rfl)) ?_
 intro a HF
 refine yc (implNumGet_any z _ (HT.out.below HS.out.bel) (HE.out.below HS.out.bel)) HF Tryz.func147 ?_
 rintro _ w9 (⟨n6, hg6, rfl, hb⟩ | ⟨hg6, rfl, hb⟩)
 refine ⟨_, rfl, ?_⟩; replace HS := Bx.mk (HS.out.later hb);clear hb HF a
 refine xr 5 rfl<|xne<|xsr<|xy rfl (vw HS.out 0 5 rfl rfl)<|xr 2 rfl<|xy rfl (vb [.int .i64 p2.fAt, .int .i64 p2.fBirth, .int .i64 p2.fSize, .int .i64 p2.fSum, .int .i64 p2.fLevel, .int .i64 0, .int .i64 (n6 : Int)] rfl)<|xr 7 rfl ?_
 intro a HF
 refine yst HF HS 1 ?_;clear HS;intro w10 HS
 try dsimp only [List.set] at HS
 revert a;refine xr 1 rfl<|xne<|xre ?_
 intro a HF
 refine bp_ret2 HF Tryz.results148 (HF.resBox rfl (HS.out.box 1 rfl) (by kernel_rfl)) (HF.res rfl) ?_
 exact .inr ⟨⟨⟨p2.fAt, p2.fBirth, p2.fSize, p2.fSum, p2.fLevel⟩, 0, (n6 : Int)⟩, fun u hu => no_num hu.d hg4, rfl, HS.out.bel⟩
 refine ⟨_, rfl, ?_⟩; replace HS := Bx.mk (HS.out.later hb);clear hb HF a
 refine xr 5 rfl<|xne<|xsr<|xy rfl (vw HS.out 0 5 rfl rfl)<|xr 2 rfl<|xy rfl (vb [.int .i64 p2.fAt, .int .i64 p2.fBirth, .int .i64 p2.fSize, .int .i64 p2.fSum, .int .i64 p2.fLevel, .int .i64 0, .int .i64 0] rfl)<|xr 7 rfl ?_
 intro a HF
 refine yst HF HS 1 ?_;clear HS;intro w11 HS
 try dsimp only [List.set] at HS
 revert a;refine xr 1 rfl<|xne<|xre ?_
 intro a HF
 refine bp_ret2 HF Tryz.results148 (HF.resBox rfl (HS.out.box 1 rfl) (by kernel_rfl)) (HF.res rfl) ?_
 exact .inr ⟨⟨⟨p2.fAt, p2.fBirth, p2.fSize, p2.fSum, p2.fLevel⟩, 0, 0⟩, fun u hu => no_num hu.d hg4, rfl, HS.out.bel⟩
 refine ⟨_, rfl, ?_⟩; replace HS := Bx.mk (HS.out.later hb);clear hb HF a
 refine xr 3 rfl ?_
 intro a HF
 refine yal z5 HF HS ?_;clear HF HS a;intro a w12 b7 HF HS
 refine yst HF HS 0 ?_;clear HS;intro w13 HS
 try dsimp only [List.set] at HS
 revert a;refine xr 1 rfl<|xne<|xsr<|xr 1 rfl<|xy rfl (vxr 9 1 1 rfl (R0.out.ao 1 (by omega)))<|xy rfl (fun a HF=>ylo (v := .string y) rfl (HF.ev rfl) (R0.out.elem1 HS.out (show ([x, y, z] : List _)[1]? = some _ from rfl) rfl)) ?_
 intro a HF
 refine yc (implNumGet_any y _ (HT.out.below HS.out.bel) (HE.out.below HS.out.bel)) HF Tryz.func147 ?_
 rintro _ w14 (⟨n8, hg8, rfl, hb⟩ | ⟨hg8, rfl, hb⟩)
 refine ⟨_, rfl, ?_⟩; replace HS := Bx.mk (HS.out.later hb);clear hb HF a
 refine xr 5 rfl<|xne<|xsr<|xr 1 rfl<|xy rfl (vxr 9 2 1 rfl (R0.out.ao 2 (by omega)))<|xy rfl (fun a HF=>ylo (v := .string z) rfl (HF.ev rfl) (R0.out.elem1 HS.out (show ([x, y, z] : List _)[2]? = some _ from rfl) rfl)) ?_
 intro a HF
 refine yc (implNumGet_any z _ (HT.out.below HS.out.bel) (HE.out.below HS.out.bel)) HF Tryz.func147 ?_
 rintro _ w15 (⟨n9, hg9, rfl, hb⟩ | ⟨hg9, rfl, hb⟩)
 refine ⟨_, rfl, ?_⟩; replace HS := Bx.mk (HS.out.later hb);clear hb HF a
 refine xr 5 rfl<|xne<|xsr<|xy rfl (vw HS.out 0 5 rfl rfl)<|xr 2 rfl<|xy rfl (vb [.int .i64 0, .int .i64 0, .int .i64 0, .int .i64 0, .int .i64 0, .int .i64 (n8 : Int), .int .i64 (n9 : Int)] rfl)<|xr 7 rfl ?_
 intro a HF
 refine yst HF HS 1 ?_;clear HS;intro w16 HS
 try dsimp only [List.set] at HS
 revert a;refine xr 1 rfl<|xne<|xre ?_
 intro a HF
 refine bp_ret2 HF Tryz.results148 (HF.resBox rfl (HS.out.box 1 rfl) (by kernel_rfl)) (HF.res rfl) ?_
 exact .inr ⟨⟨⟨0, 0, 0, 0, 0⟩, (n8 : Int), (n9 : Int)⟩, fun u hu => hpn2 u.fRoot hu.ok hu.p, rfl, HS.out.bel⟩
 refine ⟨_, rfl, ?_⟩; replace HS := Bx.mk (HS.out.later hb);clear hb HF a
 refine xr 5 rfl<|xne<|xsr<|xy rfl (vw HS.out 0 5 rfl rfl)<|xr 2 rfl<|xy rfl (vb [.int .i64 0, .int .i64 0, .int .i64 0, .int .i64 0, .int .i64 0, .int .i64 (n8 : Int), .int .i64 0] rfl)<|xr 7 rfl ?_
 intro a HF
 refine yst HF HS 1 ?_;clear HS;intro w17 HS
 try dsimp only [List.set] at HS
 revert a;refine xr 1 rfl<|xne<|xre ?_
 intro a HF
 refine bp_ret2 HF Tryz.results148 (HF.resBox rfl (HS.out.box 1 rfl) (by kernel_rfl)) (HF.res rfl) ?_
 exact .inr ⟨⟨⟨0, 0, 0, 0, 0⟩, (n8 : Int), 0⟩, fun u hu => hpn2 u.fRoot hu.ok hu.p, rfl, HS.out.bel⟩
 refine ⟨_, rfl, ?_⟩; replace HS := Bx.mk (HS.out.later hb);clear hb HF a
 refine xr 5 rfl<|xne<|xsr<|xr 1 rfl<|xy rfl (vxr 9 2 1 rfl (R0.out.ao 2 (by omega)))<|xy rfl (fun a HF=>ylo (v := .string z) rfl (HF.ev rfl) (R0.out.elem1 HS.out (show ([x, y, z] : List _)[2]? = some _ from rfl) rfl)) ?_
 intro a HF
 refine yc (implNumGet_any z _ (HT.out.below HS.out.bel) (HE.out.below HS.out.bel)) HF Tryz.func147 ?_
 rintro _ w18 (⟨n10, hg10, rfl, hb⟩ | ⟨hg10, rfl, hb⟩)
 refine ⟨_, rfl, ?_⟩; replace HS := Bx.mk (HS.out.later hb);clear hb HF a
 refine xr 5 rfl<|xne<|xsr<|xy rfl (vw HS.out 0 5 rfl rfl)<|xr 2 rfl<|xy rfl (vb [.int .i64 0, .int .i64 0, .int .i64 0, .int .i64 0, .int .i64 0, .int .i64 0, .int .i64 (n10 : Int)] rfl)<|xr 7 rfl ?_
 intro a HF
 refine yst HF HS 1 ?_;clear HS;intro w19 HS
 try dsimp only [List.set] at HS
 revert a;refine xr 1 rfl<|xne<|xre ?_
 intro a HF
 refine bp_ret2 HF Tryz.results148 (HF.resBox rfl (HS.out.box 1 rfl) (by kernel_rfl)) (HF.res rfl) ?_
 exact .inr ⟨⟨⟨0, 0, 0, 0, 0⟩, 0, (n10 : Int)⟩, fun u hu => hpn2 u.fRoot hu.ok hu.p, rfl, HS.out.bel⟩
 refine ⟨_, rfl, ?_⟩; replace HS := Bx.mk (HS.out.later hb);clear hb HF a
 refine xr 5 rfl<|xne<|xsr<|xy rfl (vw HS.out 0 5 rfl rfl)<|xr 2 rfl<|xy rfl (vb z7 rfl)<|xr 7 rfl ?_
 intro a HF
 refine yst HF HS 1 ?_;clear HS;intro w20 HS
 try dsimp only [List.set] at HS
 revert a;refine xr 1 rfl<|xne<|xre ?_
 intro a HF
 refine bp_ret2 HF Tryz.results148 (HF.resBox rfl (HS.out.box 1 rfl) (by kernel_rfl)) (HF.res rfl) ?_
 exact .inr ⟨⟨⟨0, 0, 0, 0, 0⟩, 0, 0⟩, fun u hu => hpn2 u.fRoot hu.ok hu.p, rfl, HS.out.bel⟩
open Go.RowKit
structure NodeD where
  fKind : Int
  fLinks : Int
  fSize : Int
  fTree : TreeD
abbrev nL (n : NodeD) : List Value := [.int .i64 n.fKind, .int .i64 n.fLinks, .int .i64 n.fSize, .int .i64 n.fTree.fRoot.fAt, .int .i64 n.fTree.fRoot.fBirth, .int .i64 n.fTree.fRoot.fSize, .int .i64 n.fTree.fRoot.fSum, .int .i64 n.fTree.fRoot.fLevel, .int .i64 n.fTree.fDepth, .int .i64 n.fTree.fMany]
abbrev nV (n : NodeD) : Value := .agg #[.int .i64 n.fKind, .int .i64 n.fLinks, .int .i64 n.fSize, .int .i64 n.fTree.fRoot.fAt, .int .i64 n.fTree.fRoot.fBirth, .int .i64 n.fTree.fRoot.fSize, .int .i64 n.fTree.fRoot.fSum, .int .i64 n.fTree.fRoot.fLevel, .int .i64 n.fTree.fDepth, .int .i64 n.fTree.fMany]
def eachN (kind : Int) : Int := if kind = 1 then 12 else if kind = 2 then 128 else 0
theorem eachN_none {k : Int} (h1 : k ≠ 1) (h2 : k ≠ 2) : eachN k = 0 := by unfold eachN; rw [if_neg h1, if_neg h2]
def piecesN (kind size : Int) : Int := if eachN kind = 0 ∨ ¬ (0 ≤ size ∧ size ≤ 16 * eachN kind) then -1 else (size + eachN kind - 1) / eachN kind
theorem piecesN_no {k s : Int} (h : eachN k = 0) : piecesN k s = -1 := if_pos (.inl h)
theorem piecesN_out {k s : Int} (h : ¬ (0 ≤ s ∧ s ≤ 16 * eachN k)) : piecesN k s = -1 := if_pos (.inr h)
theorem piecesN_in {k s : Int} (h : eachN k ≠ 0) (h1 : 0 ≤ s) (h2 : s ≤ 16 * eachN k) : piecesN k s = (s + eachN k - 1) / eachN k := if_neg fun e => e.elim h fun e => e ⟨h1, h2⟩
structure NodeOk (n : NodeD) : Prop where
  many : 0 ≤ piecesN n.fKind n.fSize
  links : 1 ≤ n.fLinks ∧ n.fLinks ≤ if n.fKind = 2 then 1 else 9
  tmany : n.fTree.fMany = piecesN n.fKind n.fSize
  depth : n.fTree.fDepth = ((depthN (piecesN n.fKind n.fSize) : Nat) : Int)
  root : n.fTree.fRoot.ok = true
  level : n.fTree.fRoot.hole = true ∨ n.fTree.fRoot.fLevel = n.fTree.fDepth
instance (n : NodeD) : Decidable (NodeOk n) := decidable_of_iff (0 ≤ piecesN n.fKind n.fSize ∧ (1 ≤ n.fLinks ∧ n.fLinks ≤ if n.fKind = 2 then 1 else 9) ∧ n.fTree.fMany = piecesN n.fKind n.fSize ∧ n.fTree.fDepth = ((depthN (piecesN n.fKind n.fSize) : Nat) : Int) ∧ n.fTree.fRoot.ok = true ∧ (n.fTree.fRoot.hole = true ∨ n.fTree.fRoot.fLevel = n.fTree.fDepth)) ⟨fun ⟨a, b, c, d, e, f⟩ => ⟨a, b, c, d, e, f⟩, fun ⟨a, b, c, d, e, f⟩ => ⟨a, b, c, d, e, f⟩⟩
def NodeD.ok (n : NodeD) : Bool := decide (NodeOk n)
theorem NodeD.ok_yes {n : NodeD} (h : NodeOk n) : n.ok = true := decide_eq_true h
theorem NodeD.ok_no {n : NodeD} (h : ¬ NodeOk n) : n.ok = false := decide_eq_false h
theorem NodeD.ok_is {n : NodeD} (h : n.ok = true) : NodeOk n := of_decide_eq_true h
structure NodeS (n : NodeD) : Prop where
  kind : n.fKind = 1 ∨ n.fKind = 2
  links : 1 ≤ n.fLinks ∧ n.fLinks ≤ 9
  size : 0 ≤ n.fSize ∧ n.fSize ≤ 16 * eachN n.fKind
  is : piecesN n.fKind n.fSize = (n.fSize + eachN n.fKind - 1) / eachN n.fKind
  many : 0 ≤ n.fTree.fMany ∧ n.fTree.fMany ≤ 16
  depth : 0 ≤ n.fTree.fDepth ∧ n.fTree.fDepth ≤ 2
theorem NodeOk.small {n : NodeD} (h : NodeOk n) : NodeS n := by
  have hk : n.fKind = 1 ∨ n.fKind = 2 := by
    by_cases h1 : n.fKind = 1
    · exact .inl h1
    · by_cases h2 : n.fKind = 2
      · exact .inr h2
      · have := h.many
        rw [piecesN_no (eachN_none h1 h2)] at this
        omega
  have he : 12 ≤ eachN n.fKind ∧ eachN n.fKind ≤ 128 := by rcases hk with e | e <;> rw [e] <;> decide
  have hs : 0 ≤ n.fSize ∧ n.fSize ≤ 16 * eachN n.fKind := by
    by_cases hs : 0 ≤ n.fSize ∧ n.fSize ≤ 16 * eachN n.fKind
    · exact hs
    · have := h.many
      rw [piecesN_out hs] at this
      omega
  have hp := piecesN_in (k := n.fKind) (by omega) hs.1 hs.2
  have hl := h.links
  have hm : piecesN n.fKind n.fSize ≤ 16 := by
    rw [hp]
    have : (n.fSize + eachN n.fKind - 1) / eachN n.fKind < 17 := Int.ediv_lt_of_lt_mul (by omega) (by omega)
    omega
  have hd := depthN_le (piecesN n.fKind n.fSize)
  have h1 := h.many
  have h2 := h.tmany
  have h3 := h.depth
  refine ⟨hk, ⟨hl.1, ?_⟩, hs, hp, by omega, by omega⟩
  have := hl.2
  split at this <;> omega
def endB : ByteArray := ⟨#[101, 110, 100]⟩
def nodeL (n : NodeD) : List ByteArray := [numB n.fKind, numB n.fLinks, numB n.fSize, ptrB n.fTree.fRoot, numB n.fTree.fDepth, numB n.fTree.fMany, endB]
def nodeB (n : NodeD) : ByteArray := bif n.ok then (fieldsPut (nodeL n)).1 else ByteArray.empty
theorem nodeB_no {n : NodeD} (h : n.ok = false) : nodeB n = ByteArray.empty := by unfold nodeB; rw [h]; rfl
theorem nodeB_yes {n : NodeD} (h : n.ok = true) : nodeB n = (fieldsPut (nodeL n)).1 := by unfold nodeB; rw [h]; rfl
theorem nodeL_le (n : NodeD) : (recB (nodeL n)).size ≤ 1000 := by
  refine Nat.le_trans (rec_le (Nat.le_trans (numB_le _) (by decide)) (rec_le (Nat.le_trans (numB_le _) (by decide)) (rec_le (Nat.le_trans (numB_le _) (by decide)) (rec_le (Nat.le_trans (ptrB_le _) (by decide)) (rec_le (Nat.le_trans (numB_le _) (by decide)) (rec_le (Nat.le_trans (numB_le _) (by decide)) (rec_le (y := endB) (by decide) (Nat.le_refl (recB []).size)))))))) ?_
  have h0 : (recB []).size = 0 := rfl
  omega
theorem node_rec {n : NodeD} (h : n.ok = true) : IsRec (nodeB n) (nodeL n) := by
  rw [nodeB_yes h, fieldsPut_yes (by simp only [nodeL, List.length_cons, List.length_nil]; omega) (Nat.le_trans (nodeL_le n) (by decide))]
  exact ⟨rfl, by simp only [nodeL, List.length_cons, List.length_nil]; omega⟩
theorem nodeB_size (n : NodeD) : (nodeB n).size ≤ 1000 := by
  cases h : n.ok with
  | false => rw [nodeB_no h]; exact Nat.zero_le _
  | true => rw [← (node_rec h).is]; exact nodeL_le n
theorem nodeB_inj {m n : NodeD} (hm : m.ok = true) (hn : n.ok = true) (h : nodeB m = nodeB n) : m = n := by
  have h1 := node_rec hm
  have h2 := node_rec hn
  rw [h] at h1
  have e := h1.one h2
  simp only [nodeL, List.cons.injEq, and_true] at e
  obtain ⟨e1, e2, e3, e4, e5, e6⟩ := e
  have a := (NodeD.ok_is hm)
  have b := (NodeD.ok_is hn)
  have sa := a.small
  have sb := b.small
  have ea : eachN m.fKind ≤ 128 := by rcases sa.kind with e | e <;> rw [e] <;> decide
  have eb : eachN n.fKind ≤ 128 := by rcases sb.kind with e | e <;> rw [e] <;> decide
  have k1 := sa.links; have k2 := sa.size; have k3 := sa.many; have k4 := sa.depth; have k5 := sa.kind
  have l1 := sb.links; have l2 := sb.size; have l3 := sb.many; have l4 := sb.depth; have l5 := sb.kind
  have j1 : m.fKind = n.fKind := num_one (y := numB n.fKind) ⟨by omega, by omega, e1⟩ ⟨by omega, by omega, rfl⟩
  have j2 : m.fLinks = n.fLinks := num_one (y := numB n.fLinks) ⟨by omega, by omega, e2⟩ ⟨by omega, by omega, rfl⟩
  have j3 : m.fSize = n.fSize := num_one (y := numB n.fSize) ⟨by omega, by omega, e3⟩ ⟨by omega, by omega, rfl⟩
  have j4 := ptrB_inj a.root b.root e4
  have j5 : m.fTree.fDepth = n.fTree.fDepth := num_one (y := numB n.fTree.fDepth) ⟨by omega, by omega, e5⟩ ⟨by omega, by omega, rfl⟩
  have j6 : m.fTree.fMany = n.fTree.fMany := num_one (y := numB n.fTree.fMany) ⟨by omega, by omega, e6⟩ ⟨by omega, by omega, rfl⟩
  obtain ⟨_, _, _, ⟨_, _, _⟩⟩ := m
  obtain ⟨_, _, _, ⟨_, _, _⟩⟩ := n
  simp only at j1 j2 j3 j4 j5 j6
  rw [j1, j2, j3, j4, j5, j6]
open Classical in
noncomputable def nodeG (s : ByteArray) : Option NodeD := if h : ∃ n : NodeD, n.ok = true ∧ nodeB n = s then some h.choose else none
theorem nodeG_yes {s : ByteArray} {n : NodeD} (hn : n.ok = true) (h : nodeB n = s) : nodeG s = some n := by
  have he : ∃ n : NodeD, n.ok = true ∧ nodeB n = s := ⟨n, hn, h⟩
  unfold nodeG
  rw [dif_pos he]
  have hc := he.choose_spec
  rw [nodeB_inj hc.1 hn (hc.2.trans h.symm)]
theorem nodeG_no {s : ByteArray} (h : ∀ n : NodeD, n.ok = true → nodeB n = s → False) : nodeG s = none := by
  unfold nodeG
  rw [dif_neg fun ⟨n, hn, hs⟩ => h n hn hs]
theorem node_five {n : NodeD} (h : n.ok = true) : NodeS n ∧ numG (numB n.fKind) = some n.fKind.toNat ∧ numG (numB n.fLinks) = some n.fLinks.toNat ∧ numG (numB n.fSize) = some n.fSize.toNat ∧ numG (numB n.fTree.fDepth) = some n.fTree.fDepth.toNat ∧ numG (numB n.fTree.fMany) = some n.fTree.fMany.toNat := by
  have sa := (NodeD.ok_is h).small
  have ea : eachN n.fKind ≤ 128 := by rcases sa.kind with e | e <;> rw [e] <;> decide
  have k1 := sa.links; have k2 := sa.size; have k3 := sa.many; have k4 := sa.depth; have k5 := sa.kind
  exact ⟨sa, numG_num (by omega), numG_num (by omega), numG_num (by omega), numG_num (by omega), numG_num (by omega)⟩
open Go.RowKit
def SpaceD.give (s : SpaceD) (a : Nat) : SpaceD := { fRefs := s.fRefs.set a (s.fRefs.getD a 0 - 1), fLast := if s.fRefs.getD a 0 - 1 = 0 then s.fLast.set a 0 else s.fLast }
def StoreD.drop (st : StoreD) (a : Nat) : StoreD := { st with fSpace := st.fSpace.give a, fRows := if st.fSpace.fRefs.getD a 0 - 1 = 0 then st.fRows.set a ByteArray.empty else st.fRows }
def StoreD.drops (st : StoreD) (ps : List PtrD) : StoreD := ps.foldl (fun st p => st.drop p.fAt.toNat) st
def StoreD.next (st : StoreD) : StoreD := { st.drops st.fGone with fGone := [], fTxg := st.fTxg + 1 }
end Go.Proofs.YtdlmlagcniifjaaGreatDoor
