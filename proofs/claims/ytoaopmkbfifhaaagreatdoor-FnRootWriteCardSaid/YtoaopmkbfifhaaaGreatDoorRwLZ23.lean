/- A part of the proof in YtoaopmkbfifhaaaGreatDoorRwLZ29. -/
import Derived.Shelf.Strconv.Clone
import Derived.Shelf.Strings.Cut
import Derived.Test.YtoaopmkbfifhaaaGreatDoorRwLZ22
/- Cut and Clone: laid at this dump. -/
namespace Go.Proofs.YtoaopmkbfifhaaaGreatDoor
set_option linter.unusedVariables false
set_option linter.unusedSimpArgs false
set_option maxHeartbeats 1000000
set_option maxRecDepth 100000
open Go.Shelf

def layCut_ren : Go.Shelf.Ren := ⟨fun | 145 => 165 | 217 => 209 | 219 => 192 | 220 => 177 | 224 => 211 | 225 => 210 | 266 => 220 | 267 => 212 | 314 => 221 | n => n, fun | 3 => 3 | 4 => 4 | 5 => 5 | 9 => 9 | 46 => 228 | 51 => 226 | 59 => 194 | 146 => 243 | n => n, fun | 1 => 1 | n => n⟩
theorem layCut : Go.Proofs.Lays.n145 Tryz.prog layCut_ren := {
  mixed := by kernel_rfl
  f145 := Tryz.func165.trans (congrArg some (by kernel_rfl))
  f217 := Tryz.func209.trans (congrArg some (by kernel_rfl))
  f219 := Tryz.func192.trans (congrArg some (by kernel_rfl))
  f220 := Tryz.func177.trans (congrArg some (by kernel_rfl))
  f224 := Tryz.func211.trans (congrArg some (by kernel_rfl))
  f225 := Tryz.func210.trans (congrArg some (by kernel_rfl))
  f266 := Tryz.func220.trans (congrArg some (by kernel_rfl))
  f267 := Tryz.func212.trans (congrArg some (by kernel_rfl))
  f314 := Tryz.func221.trans (congrArg some (by kernel_rfl))
  t3 := Tryz.underlying3
  a3 := Tryz.isAgg3
  z3 := Tryz.sizeOf3
  v3 := Tryz.zeroValue3
  t4 := Tryz.underlying4
  a4 := Tryz.isAgg4
  z4 := Tryz.sizeOf4
  v4 := Tryz.zeroValue4
  t5 := Tryz.underlying5
  a5 := Tryz.isAgg5
  z5 := Tryz.sizeOf5
  v5 := Tryz.zeroValue5
  t9 := Tryz.underlying9
  a9 := Tryz.isAgg9
  z9 := Tryz.sizeOf9
  v9 := Tryz.zeroValue9
  t46 := Tryz.underlying228
  a46 := Tryz.isAgg228
  z46 := Tryz.sizeOf228
  v46 := Tryz.zeroValue228
  t51 := Tryz.underlying226
  a51 := Tryz.isAgg226
  z51 := Tryz.sizeOf226
  v51 := Tryz.zeroValue226
  t59 := Tryz.underlying194
  a59 := Tryz.isAgg194
  z59 := Tryz.sizeOf194
  v59 := Tryz.zeroValue194
  t146 := Tryz.underlying243
  a146 := Tryz.isAgg243
  z146 := Tryz.sizeOf243
  v146 := Tryz.zeroValue243
  g1 := by kernel_rfl }
def layClone_ren : Go.Shelf.Ren := ⟨fun | 316 => 178 | n => n, fun | 0 => 0 | 3 => 3 | 4 => 4 | 5 => 5 | 9 => 9 | 37 => 58 | 127 => 199 | n => n, fun | n => n⟩
theorem layClone : Go.Proofs.LaysM.n316 Tryz.prog layClone_ren := {
  mixed := by kernel_rfl
  f316 := Tryz.func178.trans (congrArg some (by kernel_rfl))
  t0 := Tryz.underlying0
  a0 := Tryz.isAgg0
  z0 := Tryz.sizeOf0
  v0 := Tryz.zeroValue0
  t3 := Tryz.underlying3
  a3 := Tryz.isAgg3
  z3 := Tryz.sizeOf3
  v3 := Tryz.zeroValue3
  t4 := Tryz.underlying4
  a4 := Tryz.isAgg4
  z4 := Tryz.sizeOf4
  v4 := Tryz.zeroValue4
  t9 := Tryz.underlying9
  a9 := Tryz.isAgg9
  z9 := Tryz.sizeOf9
  v9 := Tryz.zeroValue9
  t37 := Tryz.underlying58
  a37 := Tryz.isAgg58
  z37 := Tryz.sizeOf58
  v37 := Tryz.zeroValue58
  t127 := Tryz.underlying199
  a127 := Tryz.isAgg199
  z127 := Tryz.sizeOf199
  v127 := Tryz.zeroValue199
  t5 := Tryz.underlying5
  a5 := Tryz.isAgg5
  z5 := Tryz.sizeOf5
  v5 := Tryz.zeroValue5
  i0 := by kernel_rfl
  i3 := by kernel_rfl
  i4 := by kernel_rfl
  i5 := by kernel_rfl
  i9 := by kernel_rfl
  i37 := by kernel_rfl
  i127 := by kernel_rfl }
end Go.Proofs.YtoaopmkbfifhaaaGreatDoor

/- Records read: walked. -/
namespace Go.Proofs.YtoaopmkbfifhaaaGreatDoor
set_option linter.unusedVariables false
set_option linter.unusedSimpArgs false
set_option maxHeartbeats 1000000
set_option maxRecDepth 100000
open Go.RowKit

/-- A text cut at its first ':'. -/
theorem cut_any (s : ByteArray) (w : World) (hM : MaxP w) (hs : s.size ≤ 4294967280) : Calls Tryz.prog 165 #[.string s, .string ⟨#[58]⟩] w fun e w' => ((58 : UInt8) ∉ s.data.toList ∧ (∃ b a : ByteArray, e = .returned (.tuple #[.string b, .string a, .bool false])) ∧ Below w.heap.size w w') ∨ (∃ num tail : ByteArray, s.data.toList = num.data.toList ++ 58 :: tail.data.toList ∧ (58 : UInt8) ∉ num.data.toList ∧ e = .returned (.tuple #[.string num, .string tail, .bool true]) ∧ Below w.heap.size w w') := by
  obtain ⟨m, hm⟩ := hM
  refine (Any.strings_Cut layCut s ⟨#[58]⟩ m w (by omega) hm).mono ?_
  rintro e w' ⟨rfl, n, rfl⟩
  rcases cut_split 58 s.data.toList with ⟨h1, h2⟩ | ⟨d, t, h1, h2, h3⟩
  · refine .inl ⟨h1, ⟨⟨(Go.Lib.cut s.data.toList [58]).1.toArray⟩, ⟨(Go.Lib.cut s.data.toList [58]).2.1.toArray⟩, ?_⟩, below_drewN _ _ _⟩
    show Ending.returned (.tuple #[_, _, .bool (Go.Lib.cut s.data.toList [58]).2.2]) = _
    rw [h2]
  · refine .inr ⟨⟨d.toArray⟩, ⟨t.toArray⟩, h1, h2, ?_, below_drewN _ _ _⟩
    show Ending.returned (.tuple #[.string ⟨(Go.Lib.cut s.data.toList [58]).1.toArray⟩, .string ⟨(Go.Lib.cut s.data.toList [58]).2.1.toArray⟩, .bool (Go.Lib.cut s.data.toList [58]).2.2]) = _
    rw [h3]

theorem clone_text (s : ByteArray) (w0 : World) (hs : s.size ≤ 281474976710656) : Calls Tryz.prog 166 #[.string s] w0 fun e w' => e = .returned (.string s) ∧ Below w0.heap.size w0 w' := by
 have HS := Bx.mk (St.start w0)
 refine wc_enter Tryz.func166 rfl Tryz.ntmps166 [(0, .string s)] ⟨rfl, trivial⟩ rfl ?_; intro a HF
 refine wp_sr ?_
 refine wl_as HF rfl rfl rfl rfl rfl ?_;clear HF a;intro a HF
 refine wl_ne ?_
 refine wp_sr ?_
 refine wl_mv HF rfl rfl rfl rfl rfl ?_;clear HF a;intro a HF
 refine wl_callB rfl HF rfl (enter_of Tryz.func178 (by kernel_rfl) rfl) (args := #[.string s]) rfl (v := .string s) (Any.stringslite_Clone layClone s _ (by omega)) rfl rfl HS.out ?_; clear HF HS a; intro w1 a HS HF; replace HS := Bx.mk HS
 refine wl_as HF rfl rfl rfl rfl rfl ?_;clear HF a;intro a HF
 refine wl_ne ?_
 refine wp_ret ?_
 refine bp_ret1 HF Tryz.results166 (HF.res rfl) ?_
 exact ⟨rfl, HS.out.bel⟩

theorem fieldsGet_any (s : ByteArray) (w0 : World) (hT : TabP w0) (hM : MaxP w0) (hE : ErrP w0) (hs : s.size ≤ 9223372036854775807) : Calls Tryz.prog 142 #[.string s] w0 fun e w' => (∃ xs, IsRec s xs ∧ s.size ≤ 2048 ∧ ∃ ao cp, e = .returned (.tuple #[.slice ao xs.length cp, .bool true]) ∧ St w0 [rowA encS 1 9 (.slice ao xs.length cp) xs] w') ∨ ((∀ l, IsRec s l → s.size ≤ 2048 → False) ∧ e = .returned (.tuple #[.slice none 0 0, .bool false]) ∧ Below w0.heap.size w0 w') := by
 have HT := Bx.mk hT; have HM := Bx.mk hM; have HE := Bx.mk hE; clear hT hM hE
 have HS := Bx.mk (St.start w0)
 refine wc_enter Tryz.func142 rfl Tryz.ntmps142 [(0, .string s)] ⟨rfl, trivial⟩ rfl ?_; intro a HF
 refine wp_sr ?_
 refine wl_as HF rfl rfl rfl rfl rfl ?_;clear HF a;intro a HF
 refine wl_as HF rfl rfl rfl rfl rfl ?_;clear HF a;intro a HF
 refine wl_ne ?_
 refine wp_seq ?_
 refine wp_sr ?_
 refine wl_mv HF rfl rfl rfl rfl rfl ?_;clear HF a;intro a HF
 refine wl_y rfl HF rfl rfl (yl_lenS rfl (HF.ev rfl) (by kernel_rfl)) ?_;clear HF a;intro a HF
 refine wl_y rfl HF rfl rfl (yl_gtrI rfl (HF.ev rfl) (HF.ev rfl)) ?_;clear HF a;intro a HF
 refine wl_ne ?_
 refine HF.cases 13 rfl (fun cc1 HF1 => ?_) (fun cc1 HF1 => ?_)
 ·clear HF; have HF := HF1; clear HF1
  have dcc1 := of_decide_eq_true cc1
  refine wc_true HF rfl ?_
  refine wp_sr ?_
  refine wl_as HF rfl rfl rfl rfl rfl ?_;clear HF a;intro a HF
  refine wl_as HF rfl rfl rfl rfl rfl ?_;clear HF a;intro a HF
  refine wl_ne ?_
  refine wp_ret ?_
  refine ex_then_ret ?_
  refine bp_ret2 HF Tryz.results142 (HF.res rfl) (HF.res rfl) ?_
  exact .inr ⟨fun l h h2 => absurd h2 (by omega), rfl, HS.out.bel⟩
 ·clear HF; have HF := HF1; clear HF1
  have dcc1 := of_decide_eq_false cc1
  refine wc_false HF rfl ?_
  refine wp_skip ?_
  refine ex_then ?_
  refine wp_seq ?_
  have hsz : s.size ≤ 2048 := by omega
  refine wp_region_lit ?_
  refine wl_as HF rfl rfl rfl rfl rfl ?_;clear HF a;intro a HF
  refine wl_ne ?_
  refine wp_seq ?_
  refine wp_sr ?_
  refine wl_mv HF rfl rfl rfl rfl rfl ?_;clear HF a;intro a HF
  refine wl_as HF rfl rfl rfl rfl rfl ?_;clear HF a;intro a HF
  refine wl_ne ?_
  refine wp_block ?_
  replace HS := Bx.mk (HS.out.nilRow encS 1 9 none)
  refine wc_loop (ι := Nat) (fun k a w => ∃ (ao : Option Addr) (cp : Nat) (xs : List ByteArray) (rest : ByteArray), (k = rest.size ∧ RdTo s xs rest ∧ xs.length ≤ 60) ∧ Fr 56 a [(0, .string s), (4, .slice ao xs.length cp), (5, .string rest)] ∧ St w0 ([rowA encS 1 9 (.slice ao xs.length cp) xs]) w) (fun k => k) s.size ⟨_, _, [], s, ⟨rfl, RdTo.zero s, Nat.zero_le _⟩, HF.less _ ⟨rfl, rfl, rfl, trivial⟩, HS.out⟩ ?_
  clear HF HS; clear a
  rintro k a w1 ⟨ao, cp, xs, rest, ⟨hkr, hto, hxl⟩, HF, HS⟩
  replace HS := Bx.mk HS
  have hrs := hto.size
  refine wp_seq ?_
  refine wp_sr ?_
  refine wl_mv HF rfl rfl rfl rfl rfl ?_;clear HF a;intro a HF
  refine wl_y rfl HF rfl rfl (yl_neqS rfl (HF.ev rfl) (HF.ev rfl)) ?_;clear HF a;intro a HF
  refine wl_ne ?_
  refine HF.cases 16 rfl (fun cc2 HF1 => ?_) (fun cc2 HF1 => ?_)
  ·clear HF; have HF := HF1; clear HF1
   have hre : (rest.toList == (⟨#[]⟩ : ByteArray).toList) = false := by simpa using cc2
   refine wc_true HF rfl ?_
   refine wp_skip ?_
   refine ex_then ?_
   refine wp_block ?_
   refine wp_sr ?_
   refine wl_mv HF rfl rfl rfl rfl rfl ?_;clear HF a;intro a HF
   refine wl_call rfl HF rfl (enter_of Tryz.func165 (by kernel_rfl) rfl) (args := #[.string rest, .string (⟨#[58]⟩ : ByteArray)]) rfl (cut_any rest _ (HM.out.below HS.out.bel) (by omega)) rfl rfl ?_
   rintro _ w2 (⟨h58, ⟨cb, ca, rfl⟩, hb⟩ | ⟨num, tail, hcut, h58, rfl, hb⟩)
   ·skip
    refine ⟨_, rfl, ?_⟩; replace HS := Bx.mk (HS.out.later hb); clear hb HF; clear a; intro a HF
    refine wl_mv HF rfl rfl rfl rfl rfl ?_;clear HF a;intro a HF
    refine wl_y rfl HF rfl rfl (yl_extract rfl (HF.ev rfl) rfl) ?_;clear HF a;intro a HF
    refine wl_y rfl HF rfl rfl (yl_extract rfl (HF.ev rfl) rfl) ?_;clear HF a;intro a HF
    refine wl_y rfl HF rfl rfl (yl_extract rfl (HF.ev rfl) rfl) ?_;clear HF a;intro a HF
    refine wl_as HF rfl rfl rfl rfl rfl ?_;clear HF a;intro a HF
    refine wl_as HF rfl rfl rfl rfl rfl ?_;clear HF a;intro a HF
    refine wl_as HF rfl rfl rfl rfl rfl ?_;clear HF a;intro a HF
    refine wl_ne ?_
    refine wp_sr ?_
    refine wl_mv HF rfl rfl rfl rfl rfl ?_;clear HF a;intro a HF
    refine wl_call rfl HF rfl (enter_of Tryz.func143 (by kernel_rfl) rfl) (args := #[.string cb]) rfl (implNumGet_any cb _ (HT.out.below HS.out.bel) (HE.out.below HS.out.bel)) rfl rfl ?_
    rintro _ w3 (⟨n, hng, rfl, hb⟩ | ⟨hng, rfl, hb⟩)
    ·skip
     refine ⟨_, rfl, ?_⟩; replace HS := Bx.mk (HS.out.later hb); clear hb HF; clear a; intro a HF
     refine wl_mv HF rfl rfl rfl rfl rfl ?_;clear HF a;intro a HF
     refine wl_y rfl HF rfl rfl (yl_extract rfl (HF.ev rfl) rfl) ?_;clear HF a;intro a HF
     refine wl_y rfl HF rfl rfl (yl_extract rfl (HF.ev rfl) rfl) ?_;clear HF a;intro a HF
     refine wl_as HF rfl rfl rfl rfl rfl ?_;clear HF a;intro a HF
     refine wl_as HF rfl rfl rfl rfl rfl ?_;clear HF a;intro a HF
     refine wl_ne ?_
     refine wp_seq ?_
     refine wp_sr ?_
     refine wl_mv HF rfl rfl rfl rfl rfl ?_;clear HF a;intro a HF
     refine wl_y rfl HF rfl rfl (yl_not rfl (HF.ev rfl)) ?_;clear HF a;intro a HF
     refine wl_mv HF rfl rfl rfl rfl rfl ?_;clear HF a;intro a HF
     refine wl_skip HF rfl rfl rfl rfl rfl rfl ?_;clear HF a;intro a HF
     refine wl_skip HF rfl rfl rfl rfl rfl rfl ?_;clear HF a;intro a HF
     refine wl_y rfl HF rfl rfl (yl_pick_t rfl (HF.ev rfl) (HF.ev rfl)) ?_;clear HF a;intro a HF
     refine wl_mv HF rfl rfl rfl rfl rfl ?_;clear HF a;intro a HF
     refine wl_skip HF rfl rfl rfl rfl rfl rfl ?_;clear HF a;intro a HF
     refine wl_skip HF rfl rfl rfl rfl rfl rfl ?_;clear HF a;intro a HF
     refine wl_skip HF rfl rfl rfl rfl rfl rfl ?_;clear HF a;intro a HF
     refine wl_skip HF rfl rfl rfl rfl rfl rfl ?_;clear HF a;intro a HF
     refine wl_y rfl HF rfl rfl (yl_pick_t rfl (HF.ev rfl) (HF.ev rfl)) ?_;clear HF a;intro a HF
     refine wl_mv HF rfl rfl rfl rfl rfl ?_;clear HF a;intro a HF
     refine wl_skip HF rfl rfl rfl rfl rfl rfl ?_;clear HF a;intro a HF
     refine wl_skip HF rfl rfl rfl rfl rfl rfl ?_;clear HF a;intro a HF
     refine wl_skip HF rfl rfl rfl rfl rfl rfl ?_;clear HF a;intro a HF
     refine wl_y rfl HF rfl rfl (yl_pick_t rfl (HF.ev rfl) (HF.ev rfl)) ?_;clear HF a;intro a HF
     refine wl_ne ?_
     refine wc_true HF rfl ?_
     refine wp_sr ?_
     refine wl_as HF rfl rfl rfl rfl rfl ?_;clear HF a;intro a HF
     refine wl_as HF rfl rfl rfl rfl rfl ?_;clear HF a;intro a HF
     refine wl_ne ?_
     refine wp_ret ?_
     refine ex_then_ret ?_
     refine ex_block_ret ?_
     refine ex_then_ret ?_
     refine ex_block_ret ?_
     refine ex_then_ret ?_
     refine bp_ret2 HF Tryz.results142 (HF.res rfl) (HF.res rfl) ?_
     refine .inr ⟨fun l h h2 => ?_, rfl, HS.out.bel⟩
     obtain ⟨y, ws, e1, e2, e3, e4⟩ := hto.go h.is h2 h.many hre
     exact h58 (by rw [e2]; simp)
    ·skip
     refine ⟨_, rfl, ?_⟩; replace HS := Bx.mk (HS.out.later hb); clear hb HF; clear a; intro a HF
     refine wl_mv HF rfl rfl rfl rfl rfl ?_;clear HF a;intro a HF
     refine wl_y rfl HF rfl rfl (yl_extract rfl (HF.ev rfl) rfl) ?_;clear HF a;intro a HF
     refine wl_y rfl HF rfl rfl (yl_extract rfl (HF.ev rfl) rfl) ?_;clear HF a;intro a HF
     refine wl_as HF rfl rfl rfl rfl rfl ?_;clear HF a;intro a HF
     refine wl_as HF rfl rfl rfl rfl rfl ?_;clear HF a;intro a HF
     refine wl_ne ?_
     refine wp_seq ?_
     refine wp_sr ?_
     refine wl_mv HF rfl rfl rfl rfl rfl ?_;clear HF a;intro a HF
     refine wl_y rfl HF rfl rfl (yl_not rfl (HF.ev rfl)) ?_;clear HF a;intro a HF
     refine wl_mv HF rfl rfl rfl rfl rfl ?_;clear HF a;intro a HF
     refine wl_skip HF rfl rfl rfl rfl rfl rfl ?_;clear HF a;intro a HF
     refine wl_skip HF rfl rfl rfl rfl rfl rfl ?_;clear HF a;intro a HF
     refine wl_y rfl HF rfl rfl (yl_pick_t rfl (HF.ev rfl) (HF.ev rfl)) ?_;clear HF a;intro a HF
     refine wl_mv HF rfl rfl rfl rfl rfl ?_;clear HF a;intro a HF
     refine wl_skip HF rfl rfl rfl rfl rfl rfl ?_;clear HF a;intro a HF
     refine wl_skip HF rfl rfl rfl rfl rfl rfl ?_;clear HF a;intro a HF
     refine wl_skip HF rfl rfl rfl rfl rfl rfl ?_;clear HF a;intro a HF
     refine wl_skip HF rfl rfl rfl rfl rfl rfl ?_;clear HF a;intro a HF
     refine wl_y rfl HF rfl rfl (yl_pick_t rfl (HF.ev rfl) (HF.ev rfl)) ?_;clear HF a;intro a HF
     refine wl_mv HF rfl rfl rfl rfl rfl ?_;clear HF a;intro a HF
     refine wl_skip HF rfl rfl rfl rfl rfl rfl ?_;clear HF a;intro a HF
     refine wl_skip HF rfl rfl rfl rfl rfl rfl ?_;clear HF a;intro a HF
     refine wl_skip HF rfl rfl rfl rfl rfl rfl ?_;clear HF a;intro a HF
     refine wl_y rfl HF rfl rfl (yl_pick_t rfl (HF.ev rfl) (HF.ev rfl)) ?_;clear HF a;intro a HF
     refine wl_ne ?_
     refine wc_true HF rfl ?_
     refine wp_sr ?_
     refine wl_as HF rfl rfl rfl rfl rfl ?_;clear HF a;intro a HF
     refine wl_as HF rfl rfl rfl rfl rfl ?_;clear HF a;intro a HF
     refine wl_ne ?_
     refine wp_ret ?_
     refine ex_then_ret ?_
     refine ex_block_ret ?_
     refine ex_then_ret ?_
     refine ex_block_ret ?_
     refine ex_then_ret ?_
     refine bp_ret2 HF Tryz.results142 (HF.res rfl) (HF.res rfl) ?_
     refine .inr ⟨fun l h h2 => ?_, rfl, HS.out.bel⟩
     obtain ⟨y, ws, e1, e2, e3, e4⟩ := hto.go h.is h2 h.many hre
     exact h58 (by rw [e2]; simp)
   ·skip
    refine ⟨_, rfl, ?_⟩; replace HS := Bx.mk (HS.out.later hb); clear hb HF; clear a; intro a HF
    have htl : tail.size ≤ 2048 := by have h1 := congrArg List.length hcut; rw [List.length_append, List.length_cons] at h1; have h2 := size_list rest; have h3 := size_list tail; have h4 := hto.size; omega
    refine wl_mv HF rfl rfl rfl rfl rfl ?_;clear HF a;intro a HF
    refine wl_y rfl HF rfl rfl (yl_extract rfl (HF.ev rfl) rfl) ?_;clear HF a;intro a HF
    refine wl_y rfl HF rfl rfl (yl_extract rfl (HF.ev rfl) rfl) ?_;clear HF a;intro a HF
    refine wl_y rfl HF rfl rfl (yl_extract rfl (HF.ev rfl) rfl) ?_;clear HF a;intro a HF
    refine wl_as HF rfl rfl rfl rfl rfl ?_;clear HF a;intro a HF
    refine wl_as HF rfl rfl rfl rfl rfl ?_;clear HF a;intro a HF
    refine wl_as HF rfl rfl rfl rfl rfl ?_;clear HF a;intro a HF
    refine wl_ne ?_
    refine wp_sr ?_
    refine wl_mv HF rfl rfl rfl rfl rfl ?_;clear HF a;intro a HF
    refine wl_call rfl HF rfl (enter_of Tryz.func143 (by kernel_rfl) rfl) (args := #[.string num]) rfl (implNumGet_any num _ (HT.out.below HS.out.bel) (HE.out.below HS.out.bel)) rfl rfl ?_
    rintro _ w4 (⟨n, hng, rfl, hb⟩ | ⟨hng, rfl, hb⟩)
    ·skip
     refine ⟨_, rfl, ?_⟩; replace HS := Bx.mk (HS.out.later hb); clear hb HF; clear a; intro a HF
     refine wl_mv HF rfl rfl rfl rfl rfl ?_;clear HF a;intro a HF
     refine wl_y rfl HF rfl rfl (yl_extract rfl (HF.ev rfl) rfl) ?_;clear HF a;intro a HF
     refine wl_y rfl HF rfl rfl (yl_extract rfl (HF.ev rfl) rfl) ?_;clear HF a;intro a HF
     refine wl_as HF rfl rfl rfl rfl rfl ?_;clear HF a;intro a HF
     refine wl_as HF rfl rfl rfl rfl rfl ?_;clear HF a;intro a HF
     refine wl_ne ?_
     refine wp_seq ?_
     refine wp_sr ?_
     refine wl_mv HF rfl rfl rfl rfl rfl ?_;clear HF a;intro a HF
     refine wl_y rfl HF rfl rfl (yl_not rfl (HF.ev rfl)) ?_;clear HF a;intro a HF
     refine wl_mv HF rfl rfl rfl rfl rfl ?_;clear HF a;intro a HF
     refine wl_yg HF rfl rfl rfl rfl rfl (yl_move rfl (HF.ev rfl)) ?_;clear HF a;intro a HF
     refine wl_yg HF rfl rfl rfl rfl rfl (yl_not rfl (HF.ev rfl)) ?_;clear HF a;intro a HF
     refine wl_y rfl HF rfl rfl (yl_pick_f rfl (HF.ev rfl) (HF.ev rfl)) ?_;clear HF a;intro a HF
     refine wl_mv HF rfl rfl rfl rfl rfl ?_;clear HF a;intro a HF
     refine wl_yg HF rfl rfl rfl rfl rfl (yl_move rfl (HF.ev rfl)) ?_;clear HF a;intro a HF
     refine wl_yg HF rfl rfl rfl rfl rfl (yl_move rfl (HF.ev rfl)) ?_;clear HF a;intro a HF
     refine wl_yg HF rfl rfl rfl rfl rfl (yl_lenS rfl (HF.ev rfl) (by kernel_rfl)) ?_;clear HF a;intro a HF
     refine wl_yg HF rfl rfl rfl rfl rfl (yl_gtrI rfl (HF.ev rfl) (HF.ev rfl)) ?_;clear HF a;intro a HF
     refine wl_y rfl HF rfl rfl (yl_pick_f rfl (HF.ev rfl) (HF.ev rfl)) ?_;clear HF a;intro a HF
     refine wl_mv HF rfl rfl rfl rfl rfl ?_;clear HF a;intro a HF
     refine HF.cases 40 rfl (fun cc3 HF1 => ?_) (fun cc3 HF1 => ?_)
     ·clear HF; have HF := HF1; clear HF1
      have dcc3 := of_decide_eq_true cc3
      refine wl_skip HF rfl rfl rfl rfl rfl rfl ?_;clear HF a;intro a HF
      refine wl_skip HF rfl rfl rfl rfl rfl rfl ?_;clear HF a;intro a HF
      refine wl_skip HF rfl rfl rfl rfl rfl rfl ?_;clear HF a;intro a HF
      refine wl_y rfl HF rfl rfl (yl_pick_t rfl (HF.ev rfl) (HF.ev rfl)) ?_;clear HF a;intro a HF
      refine wl_ne ?_
      refine wc_true HF rfl ?_
      refine wp_sr ?_
      refine wl_as HF rfl rfl rfl rfl rfl ?_;clear HF a;intro a HF
      refine wl_as HF rfl rfl rfl rfl rfl ?_;clear HF a;intro a HF
      refine wl_ne ?_
      refine wp_ret ?_
      refine ex_then_ret ?_
      refine ex_block_ret ?_
      refine ex_then_ret ?_
      refine ex_block_ret ?_
      refine ex_then_ret ?_
      refine bp_ret2 HF Tryz.results142 (HF.res rfl) (HF.res rfl) ?_
      refine .inr ⟨fun l h h2 => ?_, rfl, HS.out.bel⟩
      obtain ⟨y, ws, e1, e2, e3, e4⟩ := hto.go h.is h2 h.many hre
      have e5 := app_58 (dec_no58 y.size) h58 (e2.symm.trans hcut)
      rw [ba_ext e5.1] at e3; have e6 := Option.some.inj (e3.symm.trans hng); have e7 := congrArg List.length e5.2; rw [List.length_append] at e7; have e8 := size_list y; have e9 := size_list tail; omega
     ·clear HF; have HF := HF1; clear HF1
      have dcc3 := of_decide_eq_false cc3
      refine wl_yg HF rfl rfl rfl rfl rfl (yl_move rfl (HF.ev rfl)) ?_;clear HF a;intro a HF
      refine wl_yg HF rfl rfl rfl rfl rfl (yl_lenL (e := 9) (size := 1) rfl (HF.ev rfl) (by kernel_rfl)) ?_;clear HF a;intro a HF
      refine wl_yg HF rfl rfl rfl rfl rfl (yl_eqlI rfl (HF.ev rfl) (HF.ev rfl)) ?_;clear HF a;intro a HF
      refine wl_y rfl HF rfl rfl (yl_pick_f rfl (HF.ev rfl) (HF.ev rfl)) ?_;clear HF a;intro a HF
      refine wl_ne ?_
      refine HF.cases 44 rfl (fun cc4 HF1 => ?_) (fun cc4 HF1 => ?_)
      ·clear HF; have HF := HF1; clear HF1
       have dcc4 := eq_of_beq cc4
       refine wc_true HF rfl ?_
       refine wp_sr ?_
       refine wl_as HF rfl rfl rfl rfl rfl ?_;clear HF a;intro a HF
       refine wl_as HF rfl rfl rfl rfl rfl ?_;clear HF a;intro a HF
       refine wl_ne ?_
       refine wp_ret ?_
       refine ex_then_ret ?_
       refine ex_block_ret ?_
       refine ex_then_ret ?_
       refine ex_block_ret ?_
       refine ex_then_ret ?_
       refine bp_ret2 HF Tryz.results142 (HF.res rfl) (HF.res rfl) ?_
       refine .inr ⟨fun l h h2 => ?_, rfl, HS.out.bel⟩
       obtain ⟨y, ws, e1, e2, e3, e4⟩ := hto.go h.is h2 h.many hre
       have e5 := app_58 (dec_no58 y.size) h58 (e2.symm.trans hcut)
       rw [ba_ext e5.1] at e3; have e6 := Option.some.inj (e3.symm.trans hng); have e7 := congrArg List.length e5.2; rw [List.length_append] at e7; have e8 := size_list y; have e9 := size_list tail; omega
      ·clear HF; have HF := HF1; clear HF1
       have dcc4 := ne_of_beq_false cc4
       refine wc_false HF rfl ?_
       refine wp_skip ?_
       refine ex_then ?_
       refine wp_sr ?_
       refine wl_mv HF rfl rfl rfl rfl rfl ?_;clear HF a;intro a HF
       refine wl_mv HF rfl rfl rfl rfl rfl ?_;clear HF a;intro a HF
       refine wl_mv HF rfl rfl rfl rfl rfl ?_;clear HF a;intro a HF
       refine wl_y rfl HF rfl rfl (yl_sliceSh (k := n) rfl (HF.ev rfl) (HF.ev rfl) (by kernel_rfl) (by omega) (by omega)) ?_;clear HF a;intro a HF
       refine wl_callB rfl HF rfl (enter_of Tryz.func166 (by kernel_rfl) rfl) (args := #[.string (tail.extract 0 n)]) rfl (v := .string (tail.extract 0 n)) (clone_text (tail.extract 0 n) _ (by rw [ByteArray.size_extract]; omega)) rfl rfl HS.out ?_; clear HF HS a; intro w5 a HS HF; replace HS := Bx.mk HS
       refine wl_buildS (enc := encS) (e := 9) (size := 1) rfl HF rfl rfl rfl (ps := [(0, .string (tail.extract 0 n))]) rfl (cells := [.string (tail.extract 0 n)]) (by kernel_rfl) [tail.extract 0 n] rfl rfl (by unfold maxLen; omega) rfl HS.out ?_; clear HF HS a; intro b1 a w6 HF HS; replace HS := Bx.mk HS
       refine wl_appL rfl HF rfl rfl rfl (HF.ev rfl) (HF.ev rfl) elemS encS_len HS.out 1 (xs := xs) rfl (ys := [tail.extract 0 n]) (St.rdN HS.out encS_len 0 rfl) (cells_one_S _) (by unfold maxLen; (try simp only [List.length_append, List.length_cons, List.length_nil, List.nil_append, List.length_map]); omega) (by (try simp only [List.length_append, List.length_cons, List.length_nil, List.nil_append, List.length_map]); omega) ?_; clear HF HS a; intro ao2 cp3 w7 a HF HS; replace HS := Bx.mk HS
       replace HS : Bx (St w0 ([rowA encS 1 9 (.slice (some ⟨b1, 0, none⟩) 1 1) ([tail.extract 0 n]), rowA encS 1 9 (.slice ao2 (xs.length + ([tail.extract 0 n]).length) cp3) (xs ++ ([tail.extract 0 n]))]) _) := ⟨HS.out⟩
       refine wl_as HF rfl rfl rfl rfl rfl ?_;clear HF a;intro a HF
       refine wl_ne ?_
       refine wp_region_lit ?_
       refine wl_mv HF rfl rfl rfl rfl rfl ?_;clear HF a;intro a HF
       refine wl_mv HF rfl rfl rfl rfl rfl ?_;clear HF a;intro a HF
       refine wl_y rfl HF rfl rfl (yl_sliceSl (k := n) rfl (HF.ev rfl) (HF.ev rfl) (by kernel_rfl) (by omega) (by omega)) ?_;clear HF a;intro a HF
       refine wl_as HF rfl rfl rfl rfl rfl ?_;clear HF a;intro a HF
       refine wpList_nil ?_
       refine ex_block ?_
       refine ex_then ?_
       have hz : xs.length + ([tail.extract 0 n]).length = (xs ++ ([tail.extract 0 n])).length := (List.length_append ..).symm
       rw [hz] at HS HF
       have hto2 := hto.step hcut hng (by omega)
       have hlt : (tail.extract n tail.size).size < rest.size := by have h1 := congrArg List.length hcut; rw [List.length_append, List.length_cons] at h1; have h2 := size_list rest; have h3 := size_list tail; rw [ByteArray.size_extract]; omega
       replace HS:=Bx.mk (HS.out.pick 1 rfl)
       exact ⟨(tail.extract n tail.size).size, ⟨_, _, xs ++ ([tail.extract 0 n]), tail.extract n tail.size, ⟨rfl, hto2, by rw [List.length_append, List.length_cons, List.length_nil]; omega⟩, HF.less _ ⟨rfl, rfl, rfl, trivial⟩, (HS.out.erase 1)⟩, (by rw [hkr]; exact hlt)⟩
    ·skip
     refine ⟨_, rfl, ?_⟩; replace HS := Bx.mk (HS.out.later hb); clear hb HF; clear a; intro a HF
     refine wl_mv HF rfl rfl rfl rfl rfl ?_;clear HF a;intro a HF
     refine wl_y rfl HF rfl rfl (yl_extract rfl (HF.ev rfl) rfl) ?_;clear HF a;intro a HF
     refine wl_y rfl HF rfl rfl (yl_extract rfl (HF.ev rfl) rfl) ?_;clear HF a;intro a HF
     refine wl_as HF rfl rfl rfl rfl rfl ?_;clear HF a;intro a HF
     refine wl_as HF rfl rfl rfl rfl rfl ?_;clear HF a;intro a HF
     refine wl_ne ?_
     refine wp_seq ?_
     refine wp_sr ?_
     refine wl_mv HF rfl rfl rfl rfl rfl ?_;clear HF a;intro a HF
     refine wl_y rfl HF rfl rfl (yl_not rfl (HF.ev rfl)) ?_;clear HF a;intro a HF
     refine wl_mv HF rfl rfl rfl rfl rfl ?_;clear HF a;intro a HF
     refine wl_yg HF rfl rfl rfl rfl rfl (yl_move rfl (HF.ev rfl)) ?_;clear HF a;intro a HF
     refine wl_yg HF rfl rfl rfl rfl rfl (yl_not rfl (HF.ev rfl)) ?_;clear HF a;intro a HF
     refine wl_y rfl HF rfl rfl (yl_pick_f rfl (HF.ev rfl) (HF.ev rfl)) ?_;clear HF a;intro a HF
     refine wl_mv HF rfl rfl rfl rfl rfl ?_;clear HF a;intro a HF
     refine wl_skip HF rfl rfl rfl rfl rfl rfl ?_;clear HF a;intro a HF
     refine wl_skip HF rfl rfl rfl rfl rfl rfl ?_;clear HF a;intro a HF
     refine wl_skip HF rfl rfl rfl rfl rfl rfl ?_;clear HF a;intro a HF
     refine wl_skip HF rfl rfl rfl rfl rfl rfl ?_;clear HF a;intro a HF
     refine wl_y rfl HF rfl rfl (yl_pick_t rfl (HF.ev rfl) (HF.ev rfl)) ?_;clear HF a;intro a HF
     refine wl_mv HF rfl rfl rfl rfl rfl ?_;clear HF a;intro a HF
     refine wl_skip HF rfl rfl rfl rfl rfl rfl ?_;clear HF a;intro a HF
     refine wl_skip HF rfl rfl rfl rfl rfl rfl ?_;clear HF a;intro a HF
     refine wl_skip HF rfl rfl rfl rfl rfl rfl ?_;clear HF a;intro a HF
     refine wl_y rfl HF rfl rfl (yl_pick_t rfl (HF.ev rfl) (HF.ev rfl)) ?_;clear HF a;intro a HF
     refine wl_ne ?_
     refine wc_true HF rfl ?_
     refine wp_sr ?_
     refine wl_as HF rfl rfl rfl rfl rfl ?_;clear HF a;intro a HF
     refine wl_as HF rfl rfl rfl rfl rfl ?_;clear HF a;intro a HF
     refine wl_ne ?_
     refine wp_ret ?_
     refine ex_then_ret ?_
     refine ex_block_ret ?_
     refine ex_then_ret ?_
     refine ex_block_ret ?_
     refine ex_then_ret ?_
     refine bp_ret2 HF Tryz.results142 (HF.res rfl) (HF.res rfl) ?_
     refine .inr ⟨fun l h h2 => ?_, rfl, HS.out.bel⟩
     obtain ⟨y, ws, e1, e2, e3, e4⟩ := hto.go h.is h2 h.many hre
     have e5 := app_58 (dec_no58 y.size) h58 (e2.symm.trans hcut)
     rw [ba_ext e5.1] at e3; rw [e3] at hng; cases hng
  ·clear HF; have HF := HF1; clear HF1
   have hre : (rest.toList == (⟨#[]⟩ : ByteArray).toList) = true := by simpa using cc2
   refine wc_false HF rfl ?_
   refine wp_exit ?_
   refine ex_then_exit ?_
   refine ex_then_exit ?_
   refine ex_block_hit ?_
   refine ex_then ?_
   refine wp_sr ?_
   refine wl_mv HF rfl rfl rfl rfl rfl ?_;clear HF a;intro a HF
   refine wl_as HF rfl rfl rfl rfl rfl ?_;clear HF a;intro a HF
   refine wl_as HF rfl rfl rfl rfl rfl ?_;clear HF a;intro a HF
   refine wl_ne ?_
   refine wp_ret ?_
   refine bp_ret2 HF Tryz.results142 (HF.res rfl) (HF.res rfl) ?_
   replace HS:=Bx.mk (HS.out.pick 0 rfl)
   exact .inl ⟨xs, ⟨hto.done hre, hxl⟩, hsz, _, _, rfl, HS.out⟩

end Go.Proofs.YtoaopmkbfifhaaaGreatDoor

/- Writing to a set of disks, by both. -/
namespace Go.Proofs.YtoaopmkbfifhaaaGreatDoor
set_option linter.unusedVariables false
set_option linter.unusedSimpArgs false
set_option maxHeartbeats 1000000
set_option maxRecDepth 100000
open Go.RowKit

theorem waits_small {qs : List HD} (h : okR (dsOf qs) = true) (k : Nat) : (qs.getD k default).d.fWaits.length ≤ 120 := by
  by_cases hk : k < 3
  · have := (okR_at h).2 k hk
    rw [dsOf_get] at this
    exact (ok_waits this).2
  · have hl := (okR_at h).1
    rw [dsOf_len] at hl
    rw [show qs.getD k default = default by simp [List.getD, List.getElem?_eq_none (show qs.length ≤ k by omega)]]; exact Nat.zero_le _

end Go.Proofs.YtoaopmkbfifhaaaGreatDoor

/- A text to a row of all disks; roots written, by both. -/
namespace Go.Proofs.YtoaopmkbfifhaaaGreatDoor
set_option linter.unusedVariables false
set_option linter.unusedSimpArgs false
set_option maxHeartbeats 1000000
set_option maxRecDepth 100000
open Go.RowKit

theorem writeRow1_any (w0 w : World) (bi bt m : Nat) (hm : m < 64) (ps : List HD) (k : Nat) (hokk : (ps.getD k default).d.ok = true) (hf : (ps.getD k default).d.fits) (hp : (ps.getD k default).reads w0) (t : ByteArray) (ht : t.size ≤ 2048) (X : List Asr) (hS : St w0 (boxA bi 1 3 (.agg #[.int .i64 (m : Int)]) :: boxA bt 1 9 (.agg #[.string t]) :: X) w) : Calls Tryz.prog 76 #[.int .i64 (k : Int), .agg #[.slice ((ps.getD k default).a0) ((ps.getD k default).d.fCells.length) ((ps.getD k default).c0), .slice ((ps.getD k default).a1) ((ps.getD k default).d.fWaits.length) ((ps.getD k default).c1), .bool ((ps.getD k default).d.fGone)], .pointer (some ⟨bi, 0, none⟩), .pointer (some ⟨bt, 0, none⟩)] w fun e w' => (stepPut (m : Int) (fun _ => t) (fun _ => true) k (ps.getD k default).d = none ∧ ∃ q : HD, e = .returned (.tuple #[.agg #[.slice q.a0 q.d.fCells.length q.c0, .slice q.a1 q.d.fWaits.length q.c1, .bool q.d.fGone], .bool false]) ∧ St w0 X w') ∨ (∃ q : HD, stepPut (m : Int) (fun _ => t) (fun _ => true) k (ps.getD k default).d = some q.d ∧ e = .returned (.tuple #[.agg #[.slice q.a0 q.d.fCells.length q.c0, .slice q.a1 q.d.fWaits.length q.c1, .bool q.d.fGone], .bool true]) ∧ St w0 (q.asr :: boxA bi 1 3 (.agg #[.int .i64 (m : Int)]) :: boxA bt 1 9 (.agg #[.string t]) :: X) w') := by
 have hP := Bx.mk hp; clear hp
 have HS := Bx.mk hS; clear hS
 refine wc_enter Tryz.func76 rfl Tryz.ntmps76 [(0, .int .i64 (k : Int)), (1, .agg #[.slice ((ps.getD k default).a0) ((ps.getD k default).d.fCells.length) ((ps.getD k default).c0), .slice ((ps.getD k default).a1) ((ps.getD k default).d.fWaits.length) ((ps.getD k default).c1), .bool ((ps.getD k default).d.fGone)]), (2, .pointer (some ⟨bi, 0, none⟩)), (3, .pointer (some ⟨bt, 0, none⟩))] ⟨rfl, rfl, rfl, rfl, trivial⟩ rfl ?_; intro a HF
 refine wp_sr ?_
 refine wl_box rfl HF rfl (HF.ev rfl) (Z := [.slice ((ps.getD k default).a0) ((ps.getD k default).d.fCells.length) ((ps.getD k default).c0), .slice ((ps.getD k default).a1) ((ps.getD k default).d.fWaits.length) ((ps.getD k default).c1), .bool ((ps.getD k default).d.fGone)]) rfl rfl rfl rfl HS.out ?_; clear HF HS a; intro a w1 b1 HF HS; replace HS := Bx.mk HS
 refine wl_alloc rfl HF rfl rfl rfl (Z := [.slice none 0 0, .slice none 0 0, .bool false]) (by kernel_rfl) rfl HS.out ?_; clear HF HS a; intro a w2 b2 HF HS; replace HS := Bx.mk HS
 refine wl_as HF rfl rfl rfl rfl rfl ?_;clear HF a;intro a HF
 refine wl_ne ?_
 refine wp_seq ?_
 refine wp_sr ?_
 refine wl_y rfl HF rfl rfl (yl_fieldAddr (j := 2) rfl (HF.ev rfl) (by kernel_rfl)) ?_;clear HF a;intro a HF
 refine wl_y rfl HF rfl rfl (yl_load (v := .bool ((ps.getD k default).d.fGone)) rfl (HF.ev rfl) (((HS.out.box 1 rfl).cell 2).trans rfl) (by kernel_rfl)) ?_;clear HF a;intro a HF
 refine wl_ne ?_
 refine HF.cases 9 rfl (fun cc1 HF1 => ?_) (fun cc1 HF1 => ?_)
 ·clear HF; have HF := HF1; clear HF1
  refine wc_true HF rfl ?_
  refine wp_sr ?_
  refine wl_y rfl HF rfl rfl (yl_loadR (cs := [.slice ((ps.getD k default).a0) ((ps.getD k default).d.fCells.length) ((ps.getD k default).c0), .slice ((ps.getD k default).a1) ((ps.getD k default).d.fWaits.length) ((ps.getD k default).c1), .bool ((ps.getD k default).d.fGone)]) rfl (HF.ev rfl) ((HS.out.box 1 rfl).sub 0 3) (by kernel_rfl)) ?_;clear HF a;intro a HF
  refine wl_call rfl HF rfl (enter_of Tryz.func77 (by kernel_rfl) rfl) (args := #[.agg #[.slice ((ps.getD k default).a0) ((ps.getD k default).d.fCells.length) ((ps.getD k default).c0), .slice ((ps.getD k default).a1) ((ps.getD k default).d.fWaits.length) ((ps.getD k default).c1), .bool ((ps.getD k default).d.fGone)]]) rfl (clone_any (ps.getD k default) _ (hP.out.below HS.out.bel) hf) rfl rfl ?_
  rintro _ w3 ⟨⟨qa3, qc3, qb3, qe3, qd⟩, hqd, rfl, hs⟩; obtain rfl : qd = (ps.getD k default).d := hqd; refine ⟨_, rfl, ?_⟩
  replace HS := Bx.mk ((HS.out.add hs)); clear hs HF; clear a; intro a HF
  replace HS : Bx (St w0 (HD.asr ⟨qa3, qc3, qb3, qe3, (ps.getD k default).d⟩ :: boxA b2 3 94 (.agg #[.slice none 0 0, .slice none 0 0, .bool false]) :: boxA b1 3 94 (.agg #[.slice ((ps.getD k default).a0) ((ps.getD k default).d.fCells.length) ((ps.getD k default).c0), .slice ((ps.getD k default).a1) ((ps.getD k default).d.fWaits.length) ((ps.getD k default).c1), .bool ((ps.getD k default).d.fGone)]) :: boxA bi 1 3 (.agg #[.int .i64 (m : Int)]) :: boxA bt 1 9 (.agg #[.string t]) :: X) _) := ⟨HS.out⟩
  refine wl_storeBox rfl HF rfl rfl (HF.ev rfl) (HF.ev rfl) HS.out 1 rfl (cells_lit [.slice qa3 ((ps.getD k default).d.fCells.length) qc3, .slice qb3 ((ps.getD k default).d.fWaits.length) qe3, .bool ((ps.getD k default).d.fGone)] rfl rfl) (by kernel_rfl) ?_; clear HS; intro w4 HS; replace HS := Bx.mk HS
  have HS : Bx (St w0 (HD.asr ⟨qa3, qc3, qb3, qe3, (ps.getD k default).d⟩ :: boxA b2 3 94 (.agg #[.slice qa3 ((ps.getD k default).d.fCells.length) qc3, .slice qb3 ((ps.getD k default).d.fWaits.length) qe3, .bool ((ps.getD k default).d.fGone)]) :: boxA b1 3 94 (.agg #[.slice ((ps.getD k default).a0) ((ps.getD k default).d.fCells.length) ((ps.getD k default).c0), .slice ((ps.getD k default).a1) ((ps.getD k default).d.fWaits.length) ((ps.getD k default).c1), .bool ((ps.getD k default).d.fGone)]) :: boxA bi 1 3 (.agg #[.int .i64 (m : Int)]) :: boxA bt 1 9 (.agg #[.string t]) :: X) _) := HS
  refine wl_as HF rfl rfl rfl rfl rfl ?_;clear HF a;intro a HF
  refine wl_ne ?_
  refine wp_ret ?_
  refine ex_then_ret ?_
  refine bp_ret2 HF Tryz.results76 (HF.resBox rfl (HS.out.box 1 rfl) (by kernel_rfl)) (HF.res rfl) ?_
  replace HS:=Bx.mk (((HS.out.pick 4 rfl).pick 4 rfl).pick 2 rfl)
  exact .inr ⟨⟨qa3, qc3, qb3, qe3, (ps.getD k default).d⟩, stepPut_skip (by rw [cc1, Bool.true_or]), rfl, ((HS.out.erase 4).erase 3)⟩
 ·clear HF; have HF := HF1; clear HF1
  refine wc_false HF rfl ?_
  refine wp_skip ?_
  refine ex_then ?_
  refine wp_sr ?_
  refine wl_y rfl HF rfl rfl (yl_loadR (cs := [.slice ((ps.getD k default).a0) ((ps.getD k default).d.fCells.length) ((ps.getD k default).c0), .slice ((ps.getD k default).a1) ((ps.getD k default).d.fWaits.length) ((ps.getD k default).c1), .bool ((ps.getD k default).d.fGone)]) rfl (HF.ev rfl) ((HS.out.box 1 rfl).sub 0 3) (by kernel_rfl)) ?_;clear HF a;intro a HF
  refine wl_y rfl HF rfl rfl (yl_load (v := .int .i64 (m : Int)) rfl (HF.ev rfl) (((HS.out.box 2 rfl).cell 0).trans rfl) (by kernel_rfl)) ?_;clear HF a;intro a HF
  refine wl_y rfl HF rfl rfl (yl_load (v := .string t) rfl (HF.ev rfl) (((HS.out.box 3 rfl).cell 0).trans rfl) (by kernel_rfl)) ?_;clear HF a;intro a HF
  refine wl_call rfl HF rfl (enter_of Tryz.func78 (by kernel_rfl) rfl) (args := #[.agg #[.slice ((ps.getD k default).a0) ((ps.getD k default).d.fCells.length) ((ps.getD k default).c0), .slice ((ps.getD k default).a1) ((ps.getD k default).d.fWaits.length) ((ps.getD k default).c1), .bool ((ps.getD k default).d.fGone)], .int .i64 (m : Int), .string t]) rfl (diskWrite_any (ps.getD k default) (m : Int) t _ (hP.out.below HS.out.bel) hf hokk (by omega)) rfl rfl ?_
  rintro _ w5 (⟨hcan, q, rfl, hs⟩ | ⟨hcan, q, hqd, rfl, hs⟩)
  ·skip
   refine ⟨_, rfl, ?_⟩; replace HS := Bx.mk (HS.out.add hs); clear hs HF; clear a; intro a HF
   replace HS : Bx (St w0 (HD.asr q :: boxA b2 3 94 (.agg #[.slice none 0 0, .slice none 0 0, .bool false]) :: boxA b1 3 94 (.agg #[.slice ((ps.getD k default).a0) ((ps.getD k default).d.fCells.length) ((ps.getD k default).c0), .slice ((ps.getD k default).a1) ((ps.getD k default).d.fWaits.length) ((ps.getD k default).c1), .bool ((ps.getD k default).d.fGone)]) :: boxA bi 1 3 (.agg #[.int .i64 (m : Int)]) :: boxA bt 1 9 (.agg #[.string t]) :: X) _) := ⟨HS.out⟩
   refine wl_y rfl HF rfl rfl (yl_extract rfl (HF.ev rfl) rfl) ?_;clear HF a;intro a HF
   refine wl_y rfl HF rfl rfl (yl_extract rfl (HF.ev rfl) rfl) ?_;clear HF a;intro a HF
   refine wl_storeBox rfl HF rfl rfl (HF.ev rfl) (HF.ev rfl) HS.out 1 rfl (cells_lit [.slice q.a0 q.d.fCells.length q.c0, .slice q.a1 q.d.fWaits.length q.c1, .bool q.d.fGone] rfl rfl) (by kernel_rfl) ?_; clear HS; intro w6 HS; replace HS := Bx.mk HS
   have HS : Bx (St w0 (HD.asr q :: boxA b2 3 94 (.agg #[.slice q.a0 q.d.fCells.length q.c0, .slice q.a1 q.d.fWaits.length q.c1, .bool q.d.fGone]) :: boxA b1 3 94 (.agg #[.slice ((ps.getD k default).a0) ((ps.getD k default).d.fCells.length) ((ps.getD k default).c0), .slice ((ps.getD k default).a1) ((ps.getD k default).d.fWaits.length) ((ps.getD k default).c1), .bool ((ps.getD k default).d.fGone)]) :: boxA bi 1 3 (.agg #[.int .i64 (m : Int)]) :: boxA bt 1 9 (.agg #[.string t]) :: X) _) := HS
   refine wl_as HF rfl rfl rfl rfl rfl ?_;clear HF a;intro a HF
   refine wl_ne ?_
   refine wp_ret ?_
   refine bp_ret2 HF Tryz.results76 (HF.resBox rfl (HS.out.box 1 rfl) (by kernel_rfl)) (HF.res rfl) ?_
   exact .inl ⟨stepPut_fail cc1 rfl hcan, q, rfl, (((((HS.out.erase 4).erase 3).erase 2).erase 1).erase 0)⟩
  ·skip
   refine ⟨_, rfl, ?_⟩; replace HS := Bx.mk (HS.out.add hs); clear hs HF; clear a; intro a HF
   replace HS : Bx (St w0 (HD.asr q :: boxA b2 3 94 (.agg #[.slice none 0 0, .slice none 0 0, .bool false]) :: boxA b1 3 94 (.agg #[.slice ((ps.getD k default).a0) ((ps.getD k default).d.fCells.length) ((ps.getD k default).c0), .slice ((ps.getD k default).a1) ((ps.getD k default).d.fWaits.length) ((ps.getD k default).c1), .bool ((ps.getD k default).d.fGone)]) :: boxA bi 1 3 (.agg #[.int .i64 (m : Int)]) :: boxA bt 1 9 (.agg #[.string t]) :: X) _) := ⟨HS.out⟩
   refine wl_y rfl HF rfl rfl (yl_extract rfl (HF.ev rfl) rfl) ?_;clear HF a;intro a HF
   refine wl_y rfl HF rfl rfl (yl_extract rfl (HF.ev rfl) rfl) ?_;clear HF a;intro a HF
   refine wl_storeBox rfl HF rfl rfl (HF.ev rfl) (HF.ev rfl) HS.out 1 rfl (cells_lit [.slice q.a0 q.d.fCells.length q.c0, .slice q.a1 q.d.fWaits.length q.c1, .bool q.d.fGone] rfl rfl) (by kernel_rfl) ?_; clear HS; intro w7 HS; replace HS := Bx.mk HS
   have HS : Bx (St w0 (HD.asr q :: boxA b2 3 94 (.agg #[.slice q.a0 q.d.fCells.length q.c0, .slice q.a1 q.d.fWaits.length q.c1, .bool q.d.fGone]) :: boxA b1 3 94 (.agg #[.slice ((ps.getD k default).a0) ((ps.getD k default).d.fCells.length) ((ps.getD k default).c0), .slice ((ps.getD k default).a1) ((ps.getD k default).d.fWaits.length) ((ps.getD k default).c1), .bool ((ps.getD k default).d.fGone)]) :: boxA bi 1 3 (.agg #[.int .i64 (m : Int)]) :: boxA bt 1 9 (.agg #[.string t]) :: X) _) := HS
   refine wl_as HF rfl rfl rfl rfl rfl ?_;clear HF a;intro a HF
   refine wl_ne ?_
   refine wp_ret ?_
   refine bp_ret2 HF Tryz.results76 (HF.resBox rfl (HS.out.box 1 rfl) (by kernel_rfl)) (HF.res rfl) ?_
   replace HS:=Bx.mk (((HS.out.pick 4 rfl).pick 4 rfl).pick 2 rfl)
   exact .inr ⟨q, by rw [hqd]; exact stepPut_put cc1 rfl hcan, rfl, ((HS.out.erase 4).erase 3)⟩

/-- A text to a row of all disks that are not gone. -/
def sameF (ds : List DiskD) (row : Int) (t : ByteArray) : Option (List DiskD) := eachTo (stepPut row (fun _ => t) (fun _ => true)) ds 3
/-- A root written. -/
def rootF (ds : List DiskD) (x : RootD) : Option (List DiskD) := bif okR ds && x.ok then sameF ds (x.fTxg % 4) (rootB x) else none
theorem rootF_no {ds : List DiskD} {x : RootD} (h : (okR ds && x.ok) = false) : rootF ds x = none := by unfold rootF; rw [h]; rfl
theorem rootF_yes {ds : List DiskD} {x : RootD} (h1 : okR ds = true) (h2 : x.ok = true) : rootF ds x = sameF ds (x.fTxg % 4) (rootB x) := by unfold rootF; rw [h1, h2]; rfl

theorem writeRow_any (a0 : Option Addr) (c0 : Nat) (ps : List HD) (w0 : World) (hl : ps.length ≤ 1048576) (hf : fitsL ps) (hp : rdsP a0 ps w0) (row : Int) (hr0 : 0 ≤ row) (hr1 : row < 64) (t : ByteArray) (ht : t.size ≤ 2048) (hok : okR (dsOf ps) = true) : Calls Tryz.prog 37 #[.agg #[.slice a0 ps.length c0], .int .i64 row, .string t] w0 fun e w' => (sameF (dsOf ps) row t = none ∧ e = .returned (.tuple #[.agg #[.slice none 0 0], .bool false]) ∧ St w0 [] w') ∨ (∃ ao cp qs, sameF (dsOf ps) row t = some (dsOf qs) ∧ e = .returned (.tuple #[.agg #[.slice ao qs.length cp], .bool true]) ∧ St w0 [rowA HD.cells 3 94 (.slice ao qs.length cp) qs, sepA (qs.map HD.asr)] w') := by
 obtain ⟨m, rfl⟩ : ∃ m : Nat, row = (m : Int) := ⟨row.toNat, by omega⟩; have hm : m < 64 := by omega
 have h3 := okR_three hok
 have HS := Bx.mk (St.start w0)
 refine wc_enter Tryz.func37 rfl Tryz.ntmps37 [(0, .agg #[.slice a0 ps.length c0]), (1, .int .i64 (m : Int)), (2, .string t)] ⟨rfl, rfl, rfl, trivial⟩ rfl ?_; intro a HF
 refine wp_sr ?_
 refine wl_box rfl HF rfl (HF.ev rfl) (Z := [.slice a0 ps.length c0]) rfl rfl rfl rfl HS.out ?_; clear HF HS a; intro a w1 b1 HF HS; replace HS := Bx.mk HS
 refine wl_box rfl HF rfl (HF.ev rfl) (Z := [.int .i64 (m : Int)]) rfl rfl rfl rfl HS.out ?_; clear HF HS a; intro a w2 b2 HF HS; replace HS := Bx.mk HS
 refine wl_box rfl HF rfl (HF.ev rfl) (Z := [.string t]) rfl rfl rfl rfl HS.out ?_; clear HF HS a; intro a w3 b3 HF HS; replace HS := Bx.mk HS
 refine wl_alloc rfl HF rfl rfl rfl (Z := [.slice none 0 0]) (by kernel_rfl) rfl HS.out ?_; clear HF HS a; intro a w4 b4 HF HS; replace HS := Bx.mk HS
 refine wl_as HF rfl rfl rfl rfl rfl ?_;clear HF a;intro a HF
 refine wl_ne ?_
 refine wp_sr ?_
 refine wl_y rfl HF rfl rfl (yl_loadR (cs := [.slice a0 ps.length c0]) rfl (HF.ev rfl) ((HS.out.box 3 rfl).sub 0 1) (by kernel_rfl)) ?_;clear HF a;intro a HF
 refine wl_y rfl HF rfl rfl (yl_makeFunc HF rfl (cs := #[.pointer (some ⟨b2, 0, none⟩), .pointer (some ⟨b3, 0, none⟩)]) rfl) ?_;clear HF a;intro a HF
 replace HS:=Bx.mk ((HS.out.pick 1 rfl).pick 2 rfl)
 refine wl_call rfl HF rfl (enter_of Tryz.func75 (by kernel_rfl) rfl) (args := #[.agg #[.slice a0 ps.length c0], .func (.func 76) #[] #[.pointer (some ⟨b2, 0, none⟩), .pointer (some ⟨b3, 0, none⟩)]]) rfl (each_any w0 _ a0 c0 ps 76 #[.pointer (some ⟨b2, 0, none⟩), .pointer (some ⟨b3, 0, none⟩)] (stepPut (m : Int) (fun _ => t) (fun _ => true)) (fun _ => [boxA b2 1 3 (.agg #[.int .i64 (m : Int)]), boxA b3 1 9 (.agg #[.string t])]) [boxA b4 1 34 (.agg #[.slice none 0 0]), boxA b1 1 34 (.agg #[.slice a0 ps.length c0])] hl (enter_of Tryz.func76 (by kernel_rfl) rfl) hp.1 (fun k hk w X _ hS => writeRow1_any w0 w b2 b3 m hm ps k (h3.2 k (by omega)) (hf.at k) (hp.at k hk) t ht X hS) HS.out) rfl rfl ?_
 rintro _ w5 (⟨hev, rfl, hs⟩ | ⟨ao, cp, qs, hev, rfl, hs⟩)
 ·skip
  refine ⟨_, rfl, ?_⟩; replace HS := Bx.mk (hs); clear hs HF; clear a; intro a HF
  replace HS : Bx (St w0 ([boxA b4 1 34 (.agg #[.slice none 0 0]), boxA b1 1 34 (.agg #[.slice a0 ps.length c0])]) _) := ⟨HS.out⟩
  refine wl_y rfl HF rfl rfl (yl_extract rfl (HF.ev rfl) rfl) ?_;clear HF a;intro a HF
  refine wl_y rfl HF rfl rfl (yl_extract rfl (HF.ev rfl) rfl) ?_;clear HF a;intro a HF
  refine wl_storeBox rfl HF rfl rfl (HF.ev rfl) (HF.ev rfl) HS.out 0 rfl (cells_lit [.slice none 0 0] rfl rfl) (by kernel_rfl) ?_; clear HS; intro w6 HS; replace HS := Bx.mk HS
  have HS : Bx (St w0 ([boxA b4 1 34 (.agg #[.slice none 0 0]), boxA b1 1 34 (.agg #[.slice a0 ps.length c0])]) _) := HS
  refine wl_as HF rfl rfl rfl rfl rfl ?_;clear HF a;intro a HF
  refine wl_ne ?_
  refine wp_ret ?_
  refine bp_ret2 HF Tryz.results37 (HF.resBox rfl (HS.out.box 0 rfl) (by kernel_rfl)) (HF.res rfl) ?_
  rw [h3.1] at hev
  exact .inl ⟨hev, rfl, ((HS.out.erase 1).erase 0)⟩
 ·skip
  refine ⟨_, rfl, ?_⟩; replace HS := Bx.mk (hs); clear hs HF; clear a; intro a HF
  replace HS : Bx (St w0 ([rowA HD.cells 3 94 (.slice ao qs.length cp) qs, sepA (qs.map HD.asr), boxA b2 1 3 (.agg #[.int .i64 (m : Int)]), boxA b3 1 9 (.agg #[.string t]), boxA b4 1 34 (.agg #[.slice none 0 0]), boxA b1 1 34 (.agg #[.slice a0 ps.length c0])]) _) := ⟨HS.out⟩
  refine wl_y rfl HF rfl rfl (yl_extract rfl (HF.ev rfl) rfl) ?_;clear HF a;intro a HF
  refine wl_y rfl HF rfl rfl (yl_extract rfl (HF.ev rfl) rfl) ?_;clear HF a;intro a HF
  refine wl_storeBox rfl HF rfl rfl (HF.ev rfl) (HF.ev rfl) HS.out 4 rfl (cells_lit [.slice ao qs.length cp] rfl rfl) (by kernel_rfl) ?_; clear HS; intro w7 HS; replace HS := Bx.mk HS
  have HS : Bx (St w0 ([rowA HD.cells 3 94 (.slice ao qs.length cp) qs, sepA (qs.map HD.asr), boxA b2 1 3 (.agg #[.int .i64 (m : Int)]), boxA b3 1 9 (.agg #[.string t]), boxA b4 1 34 (.agg #[.slice ao qs.length cp]), boxA b1 1 34 (.agg #[.slice a0 ps.length c0])]) _) := HS
  refine wl_as HF rfl rfl rfl rfl rfl ?_;clear HF a;intro a HF
  refine wl_ne ?_
  refine wp_ret ?_
  refine bp_ret2 HF Tryz.results37 (HF.resBox rfl (HS.out.box 4 rfl) (by kernel_rfl)) (HF.res rfl) ?_
  rw [h3.1] at hev
  replace HS:=Bx.mk ((HS.out.pick 1 rfl).pick 1 rfl)
  exact .inr ⟨_, _, qs, hev, rfl, ((((HS.out.erase 5).erase 4).erase 3).erase 2)⟩

theorem l22Same_any (w0 w : World) (ga ca : Nat) (qs : List HD) (F : List Asr) (row : Int) (hr0 : 0 ≤ row) (hr1 : row < 64) (t : ByteArray) (ht : t.size ≤ 2048) (hok : okR (dsOf qs) = true) (hql : qs.length = 3) (hS : St w0 (rowA HD.cells 3 94 (.slice (some ⟨ga, 0, none⟩) qs.length ca) qs :: sepA (qs.map HD.asr) :: F) w) : Calls Tryz.prog 30 #[.agg #[.slice (some ⟨ga, 0, none⟩) qs.length ca], .int .i64 row, .string t] w fun e w' => (sameF (dsOf qs) row t = none ∧ e = .returned (.tuple #[.agg #[.slice none 0 0], .bool false]) ∧ St w0 F w') ∨ (∃ zs, sameF (dsOf qs) row t = some (dsOf zs) ∧ zs.length = qs.length ∧ e = .returned (.tuple #[.agg #[.slice (some ⟨ga, 0, none⟩) qs.length ca], .bool true]) ∧ St w0 (rowA HD.cells 3 94 (.slice (some ⟨ga, 0, none⟩) qs.length ca) zs :: sepA (zs.map HD.asr) :: F) w') := by
 obtain ⟨m, rfl⟩ : ∃ m : Nat, row = (m : Int) := ⟨row.toNat, by omega⟩; have hm : m < 64 := by omega
 have HS := Bx.mk hS; clear hS
 refine wc_enter Tryz.func30 rfl Tryz.ntmps30 [(0, .agg #[.slice (some ⟨ga, 0, none⟩) qs.length ca]), (1, .int .i64 (m : Int)), (2, .string t)] ⟨rfl, rfl, rfl, trivial⟩ rfl ?_; intro a HF
 refine wp_sr ?_
 refine wl_box rfl HF rfl (HF.ev rfl) (Z := [.slice (some ⟨ga, 0, none⟩) qs.length ca]) rfl rfl rfl rfl HS.out ?_; clear HF HS a; intro a w1 b1 HF HS; replace HS := Bx.mk HS
 refine wl_alloc rfl HF rfl rfl rfl (Z := [.slice none 0 0]) (by kernel_rfl) rfl HS.out ?_; clear HF HS a; intro a w2 b2 HF HS; replace HS := Bx.mk HS
 refine wl_as HF rfl rfl rfl rfl rfl ?_;clear HF a;intro a HF
 refine wl_ne ?_
 refine wp_sr ?_
 refine wl_y rfl HF rfl rfl (yl_loadR (cs := [.slice (some ⟨ga, 0, none⟩) qs.length ca]) rfl (HF.ev rfl) ((HS.out.box 1 rfl).sub 0 1) (by kernel_rfl)) ?_;clear HF a;intro a HF
 refine wl_mv HF rfl rfl rfl rfl rfl ?_;clear HF a;intro a HF
 refine wl_mv HF rfl rfl rfl rfl rfl ?_;clear HF a;intro a HF
 refine wl_mv HF rfl rfl rfl rfl rfl ?_;clear HF a;intro a HF
 refine wl_mv HF rfl rfl rfl rfl rfl ?_;clear HF a;intro a HF
 refine wl_buildS (enc := encS) (e := 9) (size := 1) rfl HF rfl rfl rfl (ps := [(0, .string t), (1, .string t), (2, .string t)]) rfl (cells := [.string t, .string t, .string t]) (by kernel_rfl) [t, t, t] rfl rfl (by unfold maxLen; omega) rfl HS.out ?_; clear HF HS a; intro b3 a w3 HF HS; replace HS := Bx.mk HS
 refine wl_buildS (enc := encL) (e := 4) (size := 1) rfl HF rfl rfl rfl (ps := [(0, .bool true), (1, .bool true), (2, .bool true)]) rfl (cells := [.bool true, .bool true, .bool true]) (by kernel_rfl) [true, true, true] rfl rfl (by unfold maxLen; omega) rfl HS.out ?_; clear HF HS a; intro b4 a w4 HF HS; replace HS := Bx.mk HS
 replace HS:=Bx.mk ((((HS.out.pick 0 rfl).pick 1 rfl).pick 5 rfl).pick 5 rfl)
 have hcong : eachTo (stepPut (m : Int) (fun i => [t, t, t].getD i ByteArray.empty) (fun i => [true, true, true].getD i false)) (dsOf qs) qs.length = sameF (dsOf qs) (m : Int) t := by unfold sameF; rw [hql]; exact eachTo_congr fun k hk => by rcases (by omega : k = 0 ∨ k = 1 ∨ k = 2) with rfl | rfl | rfl <;> rfl
 refine wl_call rfl HF rfl (enter_of Tryz.func63 (by kernel_rfl) rfl) (args := #[.agg #[.slice (some ⟨ga, 0, none⟩) qs.length ca], .int .i64 (m : Int), .slice (some ⟨b3, 0, none⟩) 3 3, .slice (some ⟨b4, 0, none⟩) 3 3]) rfl (by have := l4Put_any w0 _ ga ca b3 3 b4 3 qs (m : Int) [t, t, t] [true, true, true] _ (by omega) (by rw [hql]; exact Nat.le_refl 3) (by rw [hql]; exact Nat.le_refl 3) (fun k => by have h9 := waits_small (qs := qs) hok k; omega) (fun i => by rcases (by omega : i = 0 ∨ i = 1 ∨ i = 2 ∨ 3 ≤ i) with rfl | rfl | rfl | h <;> first | (show t.size ≤ _; omega) | (rw [List.getD_eq_getElem?_getD, List.getElem?_eq_none (by simpa using h)]; exact Nat.zero_le _)) HS.out; rw [hcong] at this; exact this) rfl rfl ?_
 rintro _ w5 (⟨hev, rfl, hs⟩ | ⟨zs, hev, rfl, hs⟩)
 ·skip
  refine ⟨_, rfl, ?_⟩; replace HS := Bx.mk (hs); clear hs HF; clear a; intro a HF
  replace HS : Bx (St w0 (rowA encS 1 9 (.slice (some ⟨b3, 0, none⟩) 3 3) ([t, t, t]) :: rowA encL 1 4 (.slice (some ⟨b4, 0, none⟩) 3 3) ([true, true, true]) :: boxA b2 1 34 (.agg #[.slice none 0 0]) :: boxA b1 1 34 (.agg #[.slice (some ⟨ga, 0, none⟩) qs.length ca]) :: F) _) := ⟨HS.out⟩
  refine wl_y rfl HF rfl rfl (yl_extract rfl (HF.ev rfl) rfl) ?_;clear HF a;intro a HF
  refine wl_y rfl HF rfl rfl (yl_extract rfl (HF.ev rfl) rfl) ?_;clear HF a;intro a HF
  refine wl_storeBox rfl HF rfl rfl (HF.ev rfl) (HF.ev rfl) HS.out 2 rfl (cells_lit [.slice none 0 0] rfl rfl) (by kernel_rfl) ?_; clear HS; intro w6 HS; replace HS := Bx.mk HS
  have HS : Bx (St w0 (rowA encS 1 9 (.slice (some ⟨b3, 0, none⟩) 3 3) ([t, t, t]) :: rowA encL 1 4 (.slice (some ⟨b4, 0, none⟩) 3 3) ([true, true, true]) :: boxA b2 1 34 (.agg #[.slice none 0 0]) :: boxA b1 1 34 (.agg #[.slice (some ⟨ga, 0, none⟩) qs.length ca]) :: F) _) := HS
  refine wl_as HF rfl rfl rfl rfl rfl ?_;clear HF a;intro a HF
  refine wl_ne ?_
  refine wp_ret ?_
  refine bp_ret2 HF Tryz.results30 (HF.resBox rfl (HS.out.box 2 rfl) (by kernel_rfl)) (HF.res rfl) ?_
  exact .inl ⟨hev, rfl, ((((HS.out.erase 3).erase 2).erase 1).erase 0)⟩
 ·skip
  refine ⟨_, rfl, ?_⟩; replace HS := Bx.mk (hs); clear hs HF; clear a; intro a HF
  replace HS : Bx (St w0 (rowA HD.cells 3 94 (.slice (some ⟨ga, 0, none⟩) qs.length ca) zs :: sepA (zs.map HD.asr) :: rowA encS 1 9 (.slice (some ⟨b3, 0, none⟩) 3 3) ([t, t, t]) :: rowA encL 1 4 (.slice (some ⟨b4, 0, none⟩) 3 3) ([true, true, true]) :: boxA b2 1 34 (.agg #[.slice none 0 0]) :: boxA b1 1 34 (.agg #[.slice (some ⟨ga, 0, none⟩) qs.length ca]) :: F) _) := ⟨HS.out⟩
  refine wl_y rfl HF rfl rfl (yl_extract rfl (HF.ev rfl) rfl) ?_;clear HF a;intro a HF
  refine wl_y rfl HF rfl rfl (yl_extract rfl (HF.ev rfl) rfl) ?_;clear HF a;intro a HF
  refine wl_storeBox rfl HF rfl rfl (HF.ev rfl) (HF.ev rfl) HS.out 4 rfl (cells_lit [.slice (some ⟨ga, 0, none⟩) qs.length ca] rfl rfl) (by kernel_rfl) ?_; clear HS; intro w7 HS; replace HS := Bx.mk HS
  have HS : Bx (St w0 (rowA HD.cells 3 94 (.slice (some ⟨ga, 0, none⟩) qs.length ca) zs :: sepA (zs.map HD.asr) :: rowA encS 1 9 (.slice (some ⟨b3, 0, none⟩) 3 3) ([t, t, t]) :: rowA encL 1 4 (.slice (some ⟨b4, 0, none⟩) 3 3) ([true, true, true]) :: boxA b2 1 34 (.agg #[.slice (some ⟨ga, 0, none⟩) qs.length ca]) :: boxA b1 1 34 (.agg #[.slice (some ⟨ga, 0, none⟩) qs.length ca]) :: F) _) := HS
  refine wl_as HF rfl rfl rfl rfl rfl ?_;clear HF a;intro a HF
  refine wl_ne ?_
  refine wp_ret ?_
  refine bp_ret2 HF Tryz.results30 (HF.resBox rfl (HS.out.box 4 rfl) (by kernel_rfl)) (HF.res rfl) ?_
  replace HS:=Bx.mk ((HS.out.pick 1 rfl).pick 1 rfl)
  have hzl : zs.length = qs.length := by have h8 := hev; unfold sameF at h8; rw [← dsOf_len, eachTo_len h8, hql]
  exact .inr ⟨zs, hev, hzl, rfl, ((((HS.out.erase 5).erase 4).erase 3).erase 2)⟩

theorem implRootWrite_any (a0 : Option Addr) (c0 : Nat) (ps : List HD) (w0 : World) (hl : ps.length ≤ 1048576) (hf : fitsL ps) (hp : rdsP a0 ps w0) (hT : TabP w0) (x : RootD) : Calls Tryz.prog 11 #[.agg #[.slice a0 ps.length c0], (rV x)] w0 fun e w' => (rootF (dsOf ps) x = none ∧ e = .returned (.tuple #[.agg #[.slice none 0 0], .bool false]) ∧ St w0 [] w') ∨ (∃ ao cp qs, rootF (dsOf ps) x = some (dsOf qs) ∧ e = .returned (.tuple #[.agg #[.slice ao qs.length cp], .bool true]) ∧ St w0 [rowA HD.cells 3 94 (.slice ao qs.length cp) qs, sepA (qs.map HD.asr)] w') := by
 have HT := Bx.mk hT; clear hT
 have HS := Bx.mk (St.start w0)
 refine wc_enter Tryz.func11 rfl Tryz.ntmps11 [(0, .agg #[.slice a0 ps.length c0]), (1, (rV x))] ⟨rfl, rfl, trivial⟩ rfl ?_; intro a HF
 refine wp_sr ?_
 refine wl_box rfl HF rfl (HF.ev rfl) (Z := [.slice a0 ps.length c0]) rfl rfl rfl rfl HS.out ?_; clear HF HS a; intro a w1 b1 HF HS; replace HS := Bx.mk HS
 refine wl_box rfl HF rfl (HF.ev rfl) (Z := [.int .i64 x.fTxg, .int .i64 x.fMeta.fRoot.fAt, .int .i64 x.fMeta.fRoot.fBirth, .int .i64 x.fMeta.fRoot.fSize, .int .i64 x.fMeta.fRoot.fSum, .int .i64 x.fMeta.fRoot.fLevel, .int .i64 x.fMeta.fDepth, .int .i64 x.fMeta.fMany]) rfl rfl rfl rfl HS.out ?_; clear HF HS a; intro a w2 b2 HF HS; replace HS := Bx.mk HS
 refine wl_alloc rfl HF rfl rfl rfl (Z := [.slice none 0 0]) (by kernel_rfl) rfl HS.out ?_; clear HF HS a; intro a w3 b3 HF HS; replace HS := Bx.mk HS
 refine wl_as HF rfl rfl rfl rfl rfl ?_;clear HF a;intro a HF
 refine wl_ne ?_
 refine wp_seq ?_
 refine wp_sr ?_
 refine wl_y rfl HF rfl rfl (yl_loadR (cs := [.slice a0 ps.length c0]) rfl (HF.ev rfl) ((HS.out.box 2 rfl).sub 0 1) (by kernel_rfl)) ?_;clear HF a;intro a HF
 refine wl_callB rfl HF rfl (enter_of Tryz.func35 (by kernel_rfl) rfl) (args := #[.agg #[.slice a0 ps.length c0]]) rfl (v := .bool (okR (dsOf ps))) (implRaidOk_any a0 c0 ps _ hl hf.at (hp.1.below HS.out.bel) (fun k hk => (hp.at k hk).below HS.out.bel)) rfl rfl HS.out ?_; clear HF HS a; intro w4 a HS HF; replace HS := Bx.mk HS
 refine wl_y rfl HF rfl rfl (yl_not rfl (HF.ev rfl)) ?_;clear HF a;intro a HF
 refine wl_mv HF rfl rfl rfl rfl rfl ?_;clear HF a;intro a HF
 refine HF.cases 9 rfl (fun cc1 HF1 => ?_) (fun cc1 HF1 => ?_)
 ·clear HF; have HF := HF1; clear HF1
  have hok : okR (dsOf ps) = false := by simpa using cc1
  refine wl_skip HF rfl rfl rfl rfl rfl rfl ?_;clear HF a;intro a HF
  refine wl_skip HF rfl rfl rfl rfl rfl rfl ?_;clear HF a;intro a HF
  refine wl_skip HF rfl rfl rfl rfl rfl rfl ?_;clear HF a;intro a HF
  refine wl_y rfl HF rfl rfl (yl_pick_t rfl (HF.ev rfl) (HF.ev rfl)) ?_;clear HF a;intro a HF
  refine wl_ne ?_
  refine wc_true HF rfl ?_
  refine wp_sr ?_
  refine wl_y rfl HF rfl rfl (yl_build HF rfl (ps := []) rfl (cs := #[.slice none 0 0]) (by kernel_rfl)) ?_;clear HF a;intro a HF
  refine wl_storeBox rfl HF rfl rfl (HF.ev rfl) (HF.ev rfl) HS.out 0 rfl (cells_lit [.slice none 0 0] rfl rfl) (by kernel_rfl) ?_; clear HS; intro w5 HS; replace HS := Bx.mk HS
  have HS : Bx (St w0 ([boxA b3 1 34 (.agg #[.slice none 0 0]), boxA b2 8 42 (rV x), boxA b1 1 34 (.agg #[.slice a0 ps.length c0])]) _) := HS
  refine wl_as HF rfl rfl rfl rfl rfl ?_;clear HF a;intro a HF
  refine wl_ne ?_
  refine wp_ret ?_
  refine ex_then_ret ?_
  refine bp_ret2 HF Tryz.results11 (HF.resBox rfl (HS.out.box 0 rfl) (by kernel_rfl)) (HF.res rfl) ?_
  exact .inl ⟨rootF_no (by rw [hok] <;> simp), rfl, (((HS.out.erase 2).erase 1).erase 0)⟩
 ·clear HF; have HF := HF1; clear HF1
  have hok : okR (dsOf ps) = true := by simpa using cc1
  refine wl_yg HF rfl rfl rfl rfl rfl (yl_loadR (cs := [.int .i64 x.fTxg, .int .i64 x.fMeta.fRoot.fAt, .int .i64 x.fMeta.fRoot.fBirth, .int .i64 x.fMeta.fRoot.fSize, .int .i64 x.fMeta.fRoot.fSum, .int .i64 x.fMeta.fRoot.fLevel, .int .i64 x.fMeta.fDepth, .int .i64 x.fMeta.fMany]) rfl (HF.ev rfl) ((HS.out.box 1 rfl).sub 0 8) (by kernel_rfl)) ?_;clear HF a;intro a HF
  refine wl_callBg HF rfl rfl rfl rfl (enter_of Tryz.func36 (by kernel_rfl) rfl) (args := #[(rV x)]) rfl (v := .bool x.ok) (implRootOk_any x _) rfl rfl HS.out ?_; clear HF HS a; intro w6 a HS HF; replace HS := Bx.mk HS
  refine wl_yg HF rfl rfl rfl rfl rfl (yl_not rfl (HF.ev rfl)) ?_;clear HF a;intro a HF
  refine wl_y rfl HF rfl rfl (yl_pick_f rfl (HF.ev rfl) (HF.ev rfl)) ?_;clear HF a;intro a HF
  refine wl_ne ?_
  refine HF.cases 13 rfl (fun cc2 HF1 => ?_) (fun cc2 HF1 => ?_)
  ·clear HF; have HF := HF1; clear HF1
   have hxk : x.ok = false := by simpa using cc2
   refine wc_true HF rfl ?_
   refine wp_sr ?_
   refine wl_y rfl HF rfl rfl (yl_build HF rfl (ps := []) rfl (cs := #[.slice none 0 0]) (by kernel_rfl)) ?_;clear HF a;intro a HF
   refine wl_storeBox rfl HF rfl rfl (HF.ev rfl) (HF.ev rfl) HS.out 0 rfl (cells_lit [.slice none 0 0] rfl rfl) (by kernel_rfl) ?_; clear HS; intro w7 HS; replace HS := Bx.mk HS
   have HS : Bx (St w0 ([boxA b3 1 34 (.agg #[.slice none 0 0]), boxA b2 8 42 (rV x), boxA b1 1 34 (.agg #[.slice a0 ps.length c0])]) _) := HS
   refine wl_as HF rfl rfl rfl rfl rfl ?_;clear HF a;intro a HF
   refine wl_ne ?_
   refine wp_ret ?_
   refine ex_then_ret ?_
   refine bp_ret2 HF Tryz.results11 (HF.resBox rfl (HS.out.box 0 rfl) (by kernel_rfl)) (HF.res rfl) ?_
   exact .inl ⟨rootF_no (by rw [hok, hxk] <;> simp), rfl, (((HS.out.erase 2).erase 1).erase 0)⟩
  ·clear HF; have HF := HF1; clear HF1
   have hxk : x.ok = true := by simpa using cc2
   refine wc_false HF rfl ?_
   refine wp_skip ?_
   refine ex_then ?_
   refine wp_seq ?_
   have htx := RootD.ok_txg hxk; have hrl := rootB_le x; have h3 := okR_three hok; have hmd : x.fTxg % 4 = x.fTxg % (4 : Int) := rfl; have hm0 : 0 ≤ x.fTxg % 4 := (by omega); have hm1 : x.fTxg % 4 < 64 := (by omega)
   refine wr_heldS (s := [boxA b2 8 42 (rV x), boxA b1 1 34 (.agg #[.slice a0 ps.length c0])]) (by kernel_rfl) (St.drew ((HS.out.erase 0))) ?_
   have HS2 := Bx.mk HS.out.drew; replace HS := Bx.mk (show St w0 ([boxA b2 8 42 (rV x), boxA b1 1 34 (.agg #[.slice a0 ps.length c0])]) _ from (HS.out.drew.erase 0))
   generalize World.drew _ = w8 at HS HS2 ⊢
   refine wh_y 0 rfl (by kernel_rfl) (by kernel_rfl) (by kernel_rfl) (fun _ _ _ h => h) rfl HF rfl rfl (fun _ HS => (yl_loadR (cs := [.slice a0 ps.length c0]) rfl (HF.ev rfl) ((HS.box 1 rfl).sub 0 1) (by kernel_rfl))) HS.out ?_;clear HF a;intro a HF
   refine wh_y 1 rfl (by kernel_rfl) (by kernel_rfl) (by kernel_rfl) (fun _ _ _ h => h) rfl HF rfl rfl (fun _ HS => (yl_fieldAddr (j := 0) rfl (HF.ev rfl) (by kernel_rfl))) HS.out ?_;clear HF a;intro a HF
   refine wh_y 2 rfl (by kernel_rfl) (by kernel_rfl) (by kernel_rfl) (fun _ _ _ h => h) rfl HF rfl rfl (fun _ HS => (yl_load (v := .int .i64 x.fTxg) rfl (HF.ev rfl) (((HS.box 0 rfl).cell 0).trans rfl) (by kernel_rfl))) HS.out ?_;clear HF a;intro a HF
   refine wh_y 3 rfl (by kernel_rfl) (by kernel_rfl) (by kernel_rfl) (fun _ _ _ h => h) rfl HF rfl rfl (fun _ HS => (yl_remI rfl (HF.ev rfl) (HF.ev rfl) (by omega) (rem_pos (by omega) (by omega)))) HS.out ?_;clear HF a;intro a HF
   refine wh_y 4 rfl (by kernel_rfl) (by kernel_rfl) (by kernel_rfl) (fun _ _ _ h => h) rfl HF rfl rfl (fun _ HS => (yl_loadR (cs := [.int .i64 x.fTxg, .int .i64 x.fMeta.fRoot.fAt, .int .i64 x.fMeta.fRoot.fBirth, .int .i64 x.fMeta.fRoot.fSize, .int .i64 x.fMeta.fRoot.fSum, .int .i64 x.fMeta.fRoot.fLevel, .int .i64 x.fMeta.fDepth, .int .i64 x.fMeta.fMany]) rfl (HF.ev rfl) ((HS.box 0 rfl).sub 0 8) (by kernel_rfl))) HS.out ?_;clear HF a;intro a HF
   refine wh_one 5 (by kernel_rfl) ?_
   refine wo_callB rfl rfl HF rfl (enter_of Tryz.func38 (by kernel_rfl) rfl) (args := #[(rV x)]) rfl (v := .string (rootB x)) (implRootPut_any x _ (HT.out.below HS2.out.bel)) rfl rfl ?_
   intro w9 hb; replace HS := Bx.mk (HS.out.later hb); replace HS2 := Bx.mk (HS2.out.later hb); clear hb HF; clear a; intro a HF; refine ⟨HS.out, ?_⟩
   refine wh_one 6 (by kernel_rfl) ?_
   refine wo_call rfl rfl HF rfl (enter_of Tryz.func37 (by kernel_rfl) rfl) (args := #[.agg #[.slice a0 ps.length c0], .int .i64 (x.fTxg % 4), .string (rootB x)]) rfl (writeRow_any a0 c0 ps _ hl hf ⟨hp.1.below HS2.out.bel, fun p hm => (hp.2 p hm).below HS2.out.bel⟩ (x.fTxg % (4 : Int)) hm0 hm1 (rootB x) hrl hok) rfl rfl ?_
   rintro _ w11 (⟨hev, rfl, hs⟩ | ⟨ao, cp, qs, hev, rfl, hs⟩)
   ·skip
    refine ⟨_, rfl, ?_⟩; replace HS := Bx.mk (HS.out.later hs.bel); replace HS2 := Bx.mk (HS2.out.add hs); clear hs HF; clear a; intro a HF
    replace HS2 : Bx (St w0 ([boxA b3 1 34 (.agg #[.slice none 0 0]), boxA b2 8 42 (rV x), boxA b1 1 34 (.agg #[.slice a0 ps.length c0])]) _) := ⟨HS2.out⟩; refine ⟨HS.out, ?_⟩
    refine wh_y 7 rfl (by kernel_rfl) (by kernel_rfl) (by kernel_rfl) (fun _ _ _ h => h) rfl HF rfl rfl (fun _ HS => (yl_extract rfl (HF.ev rfl) rfl)) HS.out ?_;clear HF a;intro a HF
    refine wh_y 8 rfl (by kernel_rfl) (by kernel_rfl) (by kernel_rfl) (fun _ _ _ h => h) rfl HF rfl rfl (fun _ HS => (yl_extract rfl (HF.ev rfl) rfl)) HS.out ?_;clear HF a;intro a HF
    refine wh_one 9 (by kernel_rfl) ?_
    refine wo_storeBox rfl rfl rfl rfl (HF.ev rfl) (HF.ev rfl) HS2.out 0 rfl (cells_lit [.slice none 0 0] rfl rfl) (by kernel_rfl) ?_
    clear HS HS2; intro w12 HS2; replace HS2 : Bx (St w0 ([boxA b3 1 34 (.agg #[.slice none 0 0]), boxA b2 8 42 (rV x), boxA b1 1 34 (.agg #[.slice a0 ps.length c0])]) _) := ⟨HS2⟩
    have HS : Bx (St w0 ([boxA b2 8 42 (rV x), boxA b1 1 34 (.agg #[.slice a0 ps.length c0])]) _) := ⟨(HS2.out.erase 0)⟩; refine ⟨HS.out, ?_⟩
    refine wh_y 10 rfl (by kernel_rfl) (by kernel_rfl) (by kernel_rfl) (fun _ _ _ h => h) rfl HF rfl rfl (fun _ HS => (yl_assign rfl (HF.ev rfl))) HS.out ?_;clear HF a;intro a HF
    refine wh_done (by kernel_rfl) ?_
    replace HS := HS2; clear HS2
    refine ex_then ?_
    refine wp_ret ?_
    refine bp_ret2 HF Tryz.results11 (HF.resBox rfl (HS.out.box 0 rfl) (by kernel_rfl)) (HF.res rfl) ?_
    exact .inl ⟨by rw [rootF_yes hok hxk]; exact hev, rfl, (((HS.out.erase 2).erase 1).erase 0)⟩
   ·skip
    refine ⟨_, rfl, ?_⟩; replace HS := Bx.mk (HS.out.later hs.bel); replace HS2 := Bx.mk (HS2.out.add hs); clear hs HF; clear a; intro a HF
    replace HS2 : Bx (St w0 ([rowA HD.cells 3 94 (.slice ao qs.length cp) qs, sepA (qs.map HD.asr), boxA b3 1 34 (.agg #[.slice none 0 0]), boxA b2 8 42 (rV x), boxA b1 1 34 (.agg #[.slice a0 ps.length c0])]) _) := ⟨HS2.out⟩; refine ⟨HS.out, ?_⟩
    refine wh_y 7 rfl (by kernel_rfl) (by kernel_rfl) (by kernel_rfl) (fun _ _ _ h => h) rfl HF rfl rfl (fun _ HS => (yl_extract rfl (HF.ev rfl) rfl)) HS.out ?_;clear HF a;intro a HF
    refine wh_y 8 rfl (by kernel_rfl) (by kernel_rfl) (by kernel_rfl) (fun _ _ _ h => h) rfl HF rfl rfl (fun _ HS => (yl_extract rfl (HF.ev rfl) rfl)) HS.out ?_;clear HF a;intro a HF
    refine wh_one 9 (by kernel_rfl) ?_
    refine wo_storeBox rfl rfl rfl rfl (HF.ev rfl) (HF.ev rfl) HS2.out 2 rfl (cells_lit [.slice ao qs.length cp] rfl rfl) (by kernel_rfl) ?_
    clear HS HS2; intro w13 HS2; replace HS2 : Bx (St w0 ([rowA HD.cells 3 94 (.slice ao qs.length cp) qs, sepA (qs.map HD.asr), boxA b3 1 34 (.agg #[.slice ao qs.length cp]), boxA b2 8 42 (rV x), boxA b1 1 34 (.agg #[.slice a0 ps.length c0])]) _) := ⟨HS2⟩
    have HS : Bx (St w0 ([boxA b2 8 42 (rV x), boxA b1 1 34 (.agg #[.slice a0 ps.length c0])]) _) := ⟨(((HS2.out.erase 2).erase 1).erase 0)⟩; refine ⟨HS.out, ?_⟩
    refine wh_y 10 rfl (by kernel_rfl) (by kernel_rfl) (by kernel_rfl) (fun _ _ _ h => h) rfl HF rfl rfl (fun _ HS => (yl_assign rfl (HF.ev rfl))) HS.out ?_;clear HF a;intro a HF
    refine wh_done (by kernel_rfl) ?_
    replace HS := HS2; clear HS2
    refine ex_then ?_
    refine wp_ret ?_
    refine bp_ret2 HF Tryz.results11 (HF.resBox rfl (HS.out.box 2 rfl) (by kernel_rfl)) (HF.res rfl) ?_
    replace HS:=Bx.mk ((HS.out.pick 1 rfl).pick 1 rfl)
    exact .inr ⟨_, _, qs, by rw [rootF_yes hok hxk]; exact hev, rfl, (((HS.out.erase 4).erase 3).erase 2)⟩

theorem specRootWrite_any (a0 : Option Addr) (c0 : Nat) (ps : List HD) (w0 : World) (hl : ps.length ≤ 1048576) (hf : fitsL ps) (hp : rdsP a0 ps w0) (x : RootD) : Calls Tryz.prog 8 #[.agg #[.slice a0 ps.length c0], (rV x)] w0 fun e w' => (rootF (dsOf ps) x = none ∧ e = .returned (.tuple #[.agg #[.slice none 0 0], .bool false]) ∧ St w0 [] w') ∨ (∃ ao cp qs, rootF (dsOf ps) x = some (dsOf qs) ∧ e = .returned (.tuple #[.agg #[.slice ao qs.length cp], .bool true]) ∧ St w0 [rowA HD.cells 3 94 (.slice ao qs.length cp) qs, sepA (qs.map HD.asr)] w') := by
 have HS := Bx.mk (St.start w0)
 refine wc_enter Tryz.func8 rfl Tryz.ntmps8 [(0, .agg #[.slice a0 ps.length c0]), (1, (rV x))] ⟨rfl, rfl, trivial⟩ rfl ?_; intro a HF
 refine wp_sr ?_
 refine wl_box rfl HF rfl (HF.ev rfl) (Z := [.slice a0 ps.length c0]) rfl rfl rfl rfl HS.out ?_; clear HF HS a; intro a w1 b1 HF HS; replace HS := Bx.mk HS
 refine wl_box rfl HF rfl (HF.ev rfl) (Z := [.int .i64 x.fTxg, .int .i64 x.fMeta.fRoot.fAt, .int .i64 x.fMeta.fRoot.fBirth, .int .i64 x.fMeta.fRoot.fSize, .int .i64 x.fMeta.fRoot.fSum, .int .i64 x.fMeta.fRoot.fLevel, .int .i64 x.fMeta.fDepth, .int .i64 x.fMeta.fMany]) rfl rfl rfl rfl HS.out ?_; clear HF HS a; intro a w2 b2 HF HS; replace HS := Bx.mk HS
 refine wl_alloc rfl HF rfl rfl rfl (Z := [.slice none 0 0]) (by kernel_rfl) rfl HS.out ?_; clear HF HS a; intro a w3 b3 HF HS; replace HS := Bx.mk HS
 refine wl_as HF rfl rfl rfl rfl rfl ?_;clear HF a;intro a HF
 refine wl_ne ?_
 refine wp_seq ?_
 refine wp_sr ?_
 refine wl_y rfl HF rfl rfl (yl_loadR (cs := [.slice a0 ps.length c0]) rfl (HF.ev rfl) ((HS.out.box 2 rfl).sub 0 1) (by kernel_rfl)) ?_;clear HF a;intro a HF
 refine wl_callB rfl HF rfl (enter_of Tryz.func28 (by kernel_rfl) rfl) (args := #[.agg #[.slice a0 ps.length c0]]) rfl (v := .bool (okR (dsOf ps))) (specRaidOk_any a0 c0 ps _ hl hf.at (hp.1.below HS.out.bel) (fun k hk => (hp.at k hk).below HS.out.bel)) rfl rfl HS.out ?_; clear HF HS a; intro w4 a HS HF; replace HS := Bx.mk HS
 refine wl_y rfl HF rfl rfl (yl_not rfl (HF.ev rfl)) ?_;clear HF a;intro a HF
 refine wl_mv HF rfl rfl rfl rfl rfl ?_;clear HF a;intro a HF
 refine HF.cases 9 rfl (fun cc1 HF1 => ?_) (fun cc1 HF1 => ?_)
 ·clear HF; have HF := HF1; clear HF1
  have hok : okR (dsOf ps) = false := by simpa using cc1
  refine wl_skip HF rfl rfl rfl rfl rfl rfl ?_;clear HF a;intro a HF
  refine wl_skip HF rfl rfl rfl rfl rfl rfl ?_;clear HF a;intro a HF
  refine wl_skip HF rfl rfl rfl rfl rfl rfl ?_;clear HF a;intro a HF
  refine wl_y rfl HF rfl rfl (yl_pick_t rfl (HF.ev rfl) (HF.ev rfl)) ?_;clear HF a;intro a HF
  refine wl_ne ?_
  refine wc_true HF rfl ?_
  refine wp_sr ?_
  refine wl_y rfl HF rfl rfl (yl_build HF rfl (ps := []) rfl (cs := #[.slice none 0 0]) (by kernel_rfl)) ?_;clear HF a;intro a HF
  refine wl_storeBox rfl HF rfl rfl (HF.ev rfl) (HF.ev rfl) HS.out 0 rfl (cells_lit [.slice none 0 0] rfl rfl) (by kernel_rfl) ?_; clear HS; intro w5 HS; replace HS := Bx.mk HS
  have HS : Bx (St w0 ([boxA b3 1 34 (.agg #[.slice none 0 0]), boxA b2 8 42 (rV x), boxA b1 1 34 (.agg #[.slice a0 ps.length c0])]) _) := HS
  refine wl_as HF rfl rfl rfl rfl rfl ?_;clear HF a;intro a HF
  refine wl_ne ?_
  refine wp_ret ?_
  refine ex_then_ret ?_
  refine bp_ret2 HF Tryz.results8 (HF.resBox rfl (HS.out.box 0 rfl) (by kernel_rfl)) (HF.res rfl) ?_
  exact .inl ⟨rootF_no (by rw [hok] <;> simp), rfl, (((HS.out.erase 2).erase 1).erase 0)⟩
 ·clear HF; have HF := HF1; clear HF1
  have hok : okR (dsOf ps) = true := by simpa using cc1
  refine wl_yg HF rfl rfl rfl rfl rfl (yl_loadR (cs := [.int .i64 x.fTxg, .int .i64 x.fMeta.fRoot.fAt, .int .i64 x.fMeta.fRoot.fBirth, .int .i64 x.fMeta.fRoot.fSize, .int .i64 x.fMeta.fRoot.fSum, .int .i64 x.fMeta.fRoot.fLevel, .int .i64 x.fMeta.fDepth, .int .i64 x.fMeta.fMany]) rfl (HF.ev rfl) ((HS.out.box 1 rfl).sub 0 8) (by kernel_rfl)) ?_;clear HF a;intro a HF
  refine wl_callBg HF rfl rfl rfl rfl (enter_of Tryz.func29 (by kernel_rfl) rfl) (args := #[(rV x)]) rfl (v := .bool x.ok) (specRootOk_any x _) rfl rfl HS.out ?_; clear HF HS a; intro w6 a HS HF; replace HS := Bx.mk HS
  refine wl_yg HF rfl rfl rfl rfl rfl (yl_not rfl (HF.ev rfl)) ?_;clear HF a;intro a HF
  refine wl_y rfl HF rfl rfl (yl_pick_f rfl (HF.ev rfl) (HF.ev rfl)) ?_;clear HF a;intro a HF
  refine wl_ne ?_
  refine HF.cases 13 rfl (fun cc2 HF1 => ?_) (fun cc2 HF1 => ?_)
  ·clear HF; have HF := HF1; clear HF1
   have hxk : x.ok = false := by simpa using cc2
   refine wc_true HF rfl ?_
   refine wp_sr ?_
   refine wl_y rfl HF rfl rfl (yl_build HF rfl (ps := []) rfl (cs := #[.slice none 0 0]) (by kernel_rfl)) ?_;clear HF a;intro a HF
   refine wl_storeBox rfl HF rfl rfl (HF.ev rfl) (HF.ev rfl) HS.out 0 rfl (cells_lit [.slice none 0 0] rfl rfl) (by kernel_rfl) ?_; clear HS; intro w7 HS; replace HS := Bx.mk HS
   have HS : Bx (St w0 ([boxA b3 1 34 (.agg #[.slice none 0 0]), boxA b2 8 42 (rV x), boxA b1 1 34 (.agg #[.slice a0 ps.length c0])]) _) := HS
   refine wl_as HF rfl rfl rfl rfl rfl ?_;clear HF a;intro a HF
   refine wl_ne ?_
   refine wp_ret ?_
   refine ex_then_ret ?_
   refine bp_ret2 HF Tryz.results8 (HF.resBox rfl (HS.out.box 0 rfl) (by kernel_rfl)) (HF.res rfl) ?_
   exact .inl ⟨rootF_no (by rw [hok, hxk] <;> simp), rfl, (((HS.out.erase 2).erase 1).erase 0)⟩
  ·clear HF; have HF := HF1; clear HF1
   have hxk : x.ok = true := by simpa using cc2
   refine wc_false HF rfl ?_
   refine wp_skip ?_
   refine ex_then ?_
   refine wp_seq ?_
   have htx := RootD.ok_txg hxk; have hrl := rootB_le x; have h3 := okR_three hok; have hmd : x.fTxg % 4 = x.fTxg % (4 : Int) := rfl; have hm0 : 0 ≤ x.fTxg % 4 := (by omega); have hm1 : x.fTxg % 4 < 64 := (by omega)
   refine wr_heldS (s := [boxA b2 8 42 (rV x), boxA b1 1 34 (.agg #[.slice a0 ps.length c0])]) (by kernel_rfl) (St.drew ((HS.out.erase 0))) ?_
   have HS2 := Bx.mk HS.out.drew; replace HS := Bx.mk (show St w0 ([boxA b2 8 42 (rV x), boxA b1 1 34 (.agg #[.slice a0 ps.length c0])]) _ from (HS.out.drew.erase 0))
   generalize World.drew _ = w8 at HS HS2 ⊢
   refine wh_y 0 rfl (by kernel_rfl) (by kernel_rfl) (by kernel_rfl) (fun _ _ _ h => h) rfl HF rfl rfl (fun _ HS => (yl_loadR (cs := [.slice a0 ps.length c0]) rfl (HF.ev rfl) ((HS.box 1 rfl).sub 0 1) (by kernel_rfl))) HS.out ?_;clear HF a;intro a HF
   refine wh_y 2 rfl (by kernel_rfl) (by kernel_rfl) (by kernel_rfl) (fun _ _ _ h => h) rfl HF rfl rfl (fun _ HS => (yl_fieldAddr (j := 0) rfl (HF.ev rfl) (by kernel_rfl))) HS.out ?_;clear HF a;intro a HF
   refine wh_y 3 rfl (by kernel_rfl) (by kernel_rfl) (by kernel_rfl) (fun _ _ _ h => h) rfl HF rfl rfl (fun _ HS => (yl_load (v := .int .i64 x.fTxg) rfl (HF.ev rfl) (((HS.box 0 rfl).cell 0).trans rfl) (by kernel_rfl))) HS.out ?_;clear HF a;intro a HF
   refine wh_y 4 rfl (by kernel_rfl) (by kernel_rfl) (by kernel_rfl) (fun _ _ _ h => h) rfl HF rfl rfl (fun _ HS => (yl_remI rfl (HF.ev rfl) (HF.ev rfl) (by omega) (rem_pos (by omega) (by omega)))) HS.out ?_;clear HF a;intro a HF
   refine wh_y 5 rfl (by kernel_rfl) (by kernel_rfl) (by kernel_rfl) (fun _ _ _ h => h) rfl HF rfl rfl (fun _ HS => (yl_loadR (cs := [.int .i64 x.fTxg, .int .i64 x.fMeta.fRoot.fAt, .int .i64 x.fMeta.fRoot.fBirth, .int .i64 x.fMeta.fRoot.fSize, .int .i64 x.fMeta.fRoot.fSum, .int .i64 x.fMeta.fRoot.fLevel, .int .i64 x.fMeta.fDepth, .int .i64 x.fMeta.fMany]) rfl (HF.ev rfl) ((HS.box 0 rfl).sub 0 8) (by kernel_rfl))) HS.out ?_;clear HF a;intro a HF
   refine wh_one 1 (by kernel_rfl) ?_
   refine wo_call rfl rfl HF rfl (enter_of Tryz.func31 (by kernel_rfl) rfl) (args := #[.agg #[.slice a0 ps.length c0]]) rfl (l4Copy_any a0 c0 ps _ hl hf.at (hp.1.below HS2.out.bel) (fun k hk => (hp.at k hk).below HS2.out.bel)) rfl rfl ?_
   rintro _ w10 ⟨ao, cp, qs, rfl, hqd, hs⟩
   have hql : qs.length = 3 := by rw [← dsOf_len, hqd, dsOf_len]; exact h3.1
   refine ⟨_, rfl, ?_⟩; replace HS := Bx.mk (HS.out.later hs.bel); replace HS2 := Bx.mk (HS2.out.add hs); clear hs HF; clear a; intro a HF
   replace HS2 : Bx (St w0 ([rowA HD.cells 3 94 (.slice ao qs.length cp) qs, sepA (qs.map HD.asr), boxA b3 1 34 (.agg #[.slice none 0 0]), boxA b2 8 42 (rV x), boxA b1 1 34 (.agg #[.slice a0 ps.length c0])]) _) := ⟨HS2.out⟩
   obtain ⟨g4, rfl, _, _, _, _⟩ := HS2.out.rowOpen 0 rfl (by omega)
   refine ⟨HS.out, ?_⟩
   refine wh_one 6 (by kernel_rfl) ?_
   refine wo_callB rfl rfl HF rfl (enter_of Tryz.func32 (by kernel_rfl) rfl) (args := #[(rV x)]) rfl (v := .string (rootB x)) (specRootPut_any x _) rfl rfl ?_
   intro w11 hb; replace HS := Bx.mk (HS.out.later hb); replace HS2 := Bx.mk (HS2.out.later hb); clear hb HF; clear a; intro a HF; refine ⟨HS.out, ?_⟩
   refine wh_one 7 (by kernel_rfl) ?_
   replace HS2:=Bx.mk ((HS2.out.pick 1 rfl).pick 1 rfl)
   refine wo_call rfl rfl HF rfl (enter_of Tryz.func30 (by kernel_rfl) rfl) (args := #[.agg #[.slice (some ⟨g4, 0, none⟩) qs.length cp], .int .i64 (x.fTxg % 4), .string (rootB x)]) rfl (l22Same_any w0 _ g4 cp qs _ (x.fTxg % (4 : Int)) hm0 hm1 (rootB x) hrl (by rw [hqd]; exact hok) hql HS2.out) rfl rfl ?_
   rintro _ w13 (⟨hev, rfl, hs⟩ | ⟨zs, hev, hzl, rfl, hs⟩)
   ·skip
    refine ⟨_, rfl, ?_⟩; replace HS2 := Bx.mk hs; clear hs HF; clear a; intro a HF
    replace HS2 : Bx (St w0 ([boxA b3 1 34 (.agg #[.slice none 0 0]), boxA b2 8 42 (rV x), boxA b1 1 34 (.agg #[.slice a0 ps.length c0])]) _) := ⟨HS2.out⟩; clear HS; have HS : Bx (St w0 ([boxA b2 8 42 (rV x), boxA b1 1 34 (.agg #[.slice a0 ps.length c0])]) _) := ⟨(HS2.out.erase 0)⟩; refine ⟨HS.out, ?_⟩
    refine wh_y 8 rfl (by kernel_rfl) (by kernel_rfl) (by kernel_rfl) (fun _ _ _ h => h) rfl HF rfl rfl (fun _ HS => (yl_extract rfl (HF.ev rfl) rfl)) HS.out ?_;clear HF a;intro a HF
    refine wh_y 9 rfl (by kernel_rfl) (by kernel_rfl) (by kernel_rfl) (fun _ _ _ h => h) rfl HF rfl rfl (fun _ HS => (yl_extract rfl (HF.ev rfl) rfl)) HS.out ?_;clear HF a;intro a HF
    refine wh_one 10 (by kernel_rfl) ?_
    refine wo_storeBox rfl rfl rfl rfl (HF.ev rfl) (HF.ev rfl) HS2.out 0 rfl (cells_lit [.slice none 0 0] rfl rfl) (by kernel_rfl) ?_
    clear HS HS2; intro w14 HS2; replace HS2 : Bx (St w0 ([boxA b3 1 34 (.agg #[.slice none 0 0]), boxA b2 8 42 (rV x), boxA b1 1 34 (.agg #[.slice a0 ps.length c0])]) _) := ⟨HS2⟩
    have HS : Bx (St w0 ([boxA b2 8 42 (rV x), boxA b1 1 34 (.agg #[.slice a0 ps.length c0])]) _) := ⟨(HS2.out.erase 0)⟩; refine ⟨HS.out, ?_⟩
    refine wh_y 11 rfl (by kernel_rfl) (by kernel_rfl) (by kernel_rfl) (fun _ _ _ h => h) rfl HF rfl rfl (fun _ HS => (yl_assign rfl (HF.ev rfl))) HS.out ?_;clear HF a;intro a HF
    refine wh_done (by kernel_rfl) ?_
    replace HS := HS2; clear HS2
    refine ex_then ?_
    refine wp_ret ?_
    refine bp_ret2 HF Tryz.results8 (HF.resBox rfl (HS.out.box 0 rfl) (by kernel_rfl)) (HF.res rfl) ?_
    exact .inl ⟨by rw [rootF_yes hok hxk, ← hqd]; exact hev, rfl, (((HS.out.erase 2).erase 1).erase 0)⟩
   ·skip
    refine ⟨_, rfl, ?_⟩; replace HS2 := Bx.mk hs; clear hs HF; clear a; intro a HF
    replace HS2 : Bx (St w0 ([rowA HD.cells 3 94 (.slice (some ⟨g4, 0, none⟩) qs.length cp) zs, sepA (zs.map HD.asr), boxA b3 1 34 (.agg #[.slice none 0 0]), boxA b2 8 42 (rV x), boxA b1 1 34 (.agg #[.slice a0 ps.length c0])]) _) := ⟨HS2.out⟩; clear HS; have HS : Bx (St w0 ([boxA b2 8 42 (rV x), boxA b1 1 34 (.agg #[.slice a0 ps.length c0])]) _) := ⟨(((HS2.out.erase 2).erase 1).erase 0)⟩; refine ⟨HS.out, ?_⟩
    refine wh_y 8 rfl (by kernel_rfl) (by kernel_rfl) (by kernel_rfl) (fun _ _ _ h => h) rfl HF rfl rfl (fun _ HS => (yl_extract rfl (HF.ev rfl) rfl)) HS.out ?_;clear HF a;intro a HF
    refine wh_y 9 rfl (by kernel_rfl) (by kernel_rfl) (by kernel_rfl) (fun _ _ _ h => h) rfl HF rfl rfl (fun _ HS => (yl_extract rfl (HF.ev rfl) rfl)) HS.out ?_;clear HF a;intro a HF
    refine wh_one 10 (by kernel_rfl) ?_
    refine wo_storeBox rfl rfl rfl rfl (HF.ev rfl) (HF.ev rfl) HS2.out 2 rfl (cells_lit [.slice (some ⟨g4, 0, none⟩) qs.length cp] rfl rfl) (by kernel_rfl) ?_
    clear HS HS2; intro w15 HS2; replace HS2 : Bx (St w0 ([rowA HD.cells 3 94 (.slice (some ⟨g4, 0, none⟩) qs.length cp) zs, sepA (zs.map HD.asr), boxA b3 1 34 (.agg #[.slice (some ⟨g4, 0, none⟩) qs.length cp]), boxA b2 8 42 (rV x), boxA b1 1 34 (.agg #[.slice a0 ps.length c0])]) _) := ⟨HS2⟩
    have HS : Bx (St w0 ([boxA b2 8 42 (rV x), boxA b1 1 34 (.agg #[.slice a0 ps.length c0])]) _) := ⟨(((HS2.out.erase 2).erase 1).erase 0)⟩; refine ⟨HS.out, ?_⟩
    refine wh_y 11 rfl (by kernel_rfl) (by kernel_rfl) (by kernel_rfl) (fun _ _ _ h => h) rfl HF rfl rfl (fun _ HS => (yl_assign rfl (HF.ev rfl))) HS.out ?_;clear HF a;intro a HF
    refine wh_done (by kernel_rfl) ?_
    replace HS := HS2; clear HS2
    refine ex_then ?_
    refine wp_ret ?_
    refine bp_ret2 HF Tryz.results8 (HF.resBox rfl (HS.out.box 2 rfl) (by kernel_rfl)) (HF.res rfl) ?_
    replace HS:=Bx.mk ((HS.out.pick 1 rfl).pick 1 rfl)
    have HT2 := (((HS.out.erase 4).erase 3).erase 2); rw [← hzl] at HT2
    exact .inr ⟨_, _, zs, by rw [rootF_yes hok hxk, ← hqd]; exact hev, by rw [hzl]; rfl, HT2⟩

end Go.Proofs.YtoaopmkbfifhaaaGreatDoor

/- Pointers, trees, roots read: walked. -/
namespace Go.Proofs.YtoaopmkbfifhaaaGreatDoor
set_option linter.unusedVariables false
set_option linter.unusedSimpArgs false
set_option maxHeartbeats 1000000
set_option maxRecDepth 100000
open Go.RowKit

theorem dec_no46 (n : Nat) : ∀ x ∈ (decB n).data.toList, x ≠ 46 := by
  intro x hx e
  subst e
  rw [decB_list] at hx
  obtain ⟨d, hd⟩ := digits_all n 46 hx
  obtain ⟨h1, h10⟩ := digit_back hd
  have hn : (UInt8.ofNat (48 + d)).toNat = 48 + d := by rw [UInt8.toNat_ofNat']; omega
  rw [← h1] at hn
  have : (46 : UInt8).toNat = 46 := rfl
  omega
theorem num_no46 {n : Int} (h : 0 ≤ n ∧ n ≤ 999999999) : ∀ x ∈ (numB n).data.toList, x ≠ 46 := by rw [numB_in h.1 h.2]; exact dec_no46 _
theorem pieces46 {a : ByteArray} (h : ∀ x ∈ a.data.toList, x ≠ 46) (b : ByteArray) : piecesB (a ++ (dotB ++ b)) 46 = a :: piecesB b 46 := by
  unfold piecesB
  rw [list_append, list_append, show dotB.data.toList = [46] from rfl, List.singleton_append, splitL_app 46 _ _ h, List.map_cons]
theorem pieces46_one {a : ByteArray} (h : ∀ x ∈ a.data.toList, x ≠ 46) : piecesB a 46 = [a] := by
  unfold piecesB
  rw [splitL_none 46 _ h, List.map_cons, List.map_nil]
theorem app_assoc (a b c : ByteArray) : a ++ b ++ c = a ++ (b ++ c) := ba_ext (by simp only [list_append, List.append_assoc])
theorem ptr_pieces {p : PtrD} (h : p.ok = true) (hh : p.hole = false) : piecesB (ptrB p) 46 = [numB p.fAt, numB p.fBirth, numB p.fSize, numB p.fSum, numB p.fLevel] := by
  have hb := PtrD.ok_all h hh
  rw [ptrB_yes h hh]
  simp only [app_assoc]
  rw [pieces46 (num_no46 (by omega)), pieces46 (num_no46 (by omega)), pieces46 (num_no46 (by omega)), pieces46 (num_no46 (by omega)), pieces46_one (num_no46 (by omega))]
theorem numG_num {n : Int} (h : 0 ≤ n ∧ n ≤ 999999999) : numG (numB n) = some n.toNat := by rw [numB_in h.1 h.2]; exact numG_dec (by omega)
theorem num_read {n : Int} {m : Nat} (h : 0 ≤ n ∧ n ≤ 999999999) (hg : numG (numB n) = some m) : (m : Int) = n := by
  rw [numG_num h] at hg
  have := Option.some.inj hg
  omega
theorem hole_zero {p : PtrD} (h : p.hole = true) : p = PtrD.zero := by
  unfold PtrD.hole at h
  simp only [Bool.and_eq_true, beq_iff_eq] at h
  obtain ⟨⟨⟨⟨h1, h2⟩, h3⟩, h4⟩, h5⟩ := h
  cases p
  simp only at h1 h2 h3 h4 h5
  subst h1; subst h2; subst h3; subst h4; subst h5
  rfl
theorem ptr_dash {p : PtrD} {s : ByteArray} (h : p.ok = true) (hs : ptrB p = s) (hd : (s.toList == (⟨#[45]⟩ : ByteArray).toList) = false) : p.hole = false := by
  cases hh : p.hole with
  | false => rfl
  | true =>
    rw [ptrB_hole h hh] at hs
    rw [← hs, show ((⟨#[45]⟩ : ByteArray).toList == (⟨#[45]⟩ : ByteArray).toList) = true from beq_self_eq_true _] at hd
    cases hd
theorem len5 {α : Type} {l : List α} (h : l.length = 5) : ∃ a b c d e, l = [a, b, c, d, e] := by
  match l, h with
  | [a, b, c, d, e], _ => exact ⟨a, b, c, d, e, rfl⟩
/-- Two valid pointers have one text only if they are one. -/
theorem ptrB_inj {p q : PtrD} (hp : p.ok = true) (hq : q.ok = true) (h : ptrB p = ptrB q) : p = q := by
  cases h1 : p.hole with
  | true =>
    cases h2 : q.hole with
    | true => rw [hole_zero h1, hole_zero h2]
    | false =>
      have := ptr_pieces hq h2
      rw [← h, ptrB_hole hp h1] at this
      exact absurd (congrArg List.length this) (show ¬ (1 : Nat) = 5 by decide)
  | false =>
    cases h2 : q.hole with
    | true =>
      have := ptr_pieces hp h1
      rw [h, ptrB_hole hq h2] at this
      exact absurd (congrArg List.length this) (show ¬ (1 : Nat) = 5 by decide)
    | false =>
      have e1 := ptr_pieces hp h1
      have e2 := ptr_pieces hq h2
      rw [h, e2] at e1
      have hb := PtrD.ok_all hp h1
      have hc := PtrD.ok_all hq h2
      simp only [List.cons.injEq, and_true] at e1
      obtain ⟨k1, k2, k3, k4, k5⟩ := e1
      have num : ∀ {m n : Int}, 0 ≤ m ∧ m ≤ 999999999 → 0 ≤ n ∧ n ≤ 999999999 → numB m = numB n → n = m := fun hm hn e => by
        have := numG_num hm
        rw [e, numG_num hn] at this
        have := Option.some.inj this
        omega
      have j1 := num (by omega) (by omega) k1
      have j2 := num (by omega) (by omega) k2
      have j3 := num (by omega) (by omega) k3
      have j4 := num (by omega) (by omega) k4
      have j5 := num (by omega) (by omega) k5
      cases p; cases q
      simp only at j1 j2 j3 j4 j5
      subst j1; subst j2; subst j3; subst j4; subst j5
      rfl

theorem ptrGet_any (s : ByteArray) (w0 : World) (hT : TabP w0) (hM : MaxP w0) (hE : ErrP w0) (hs : s.size ≤ 4294967280) : Calls Tryz.prog 168 #[.string s] w0 fun e w' => (∃ p : PtrD, p.ok = true ∧ ptrB p = s ∧ e = .returned (.tuple #[.agg #[.int .i64 p.fAt, .int .i64 p.fBirth, .int .i64 p.fSize, .int .i64 p.fSum, .int .i64 p.fLevel], .bool true]) ∧ Below w0.heap.size w0 w') ∨ ((∀ p : PtrD, p.ok = true → ptrB p = s → False) ∧ e = .returned (.tuple #[.agg #[.int .i64 0, .int .i64 0, .int .i64 0, .int .i64 0, .int .i64 0], .bool false]) ∧ Below w0.heap.size w0 w') := by
  have HT := Bx.mk hT; have HM := Bx.mk hM; have HE := Bx.mk hE; clear hT hM hE
  have HS := Bx.mk (St.start w0)
  refine wc_enter Tryz.func168 rfl Tryz.ntmps168 [(0, .string s)] ⟨rfl, trivial⟩ rfl ?_; intro a HF
  refine wp_sr ?_
  refine wl_alloc rfl HF rfl rfl rfl (Z := [.int .i64 0, .int .i64 0, .int .i64 0, .int .i64 0, .int .i64 0]) (by kernel_rfl) rfl HS.out ?_; clear HF HS a; intro a w1 b1 HF HS; replace HS := Bx.mk HS
  refine wl_as HF rfl rfl rfl rfl rfl ?_;clear HF a;intro a HF
  refine wl_ne ?_
  refine wp_seq ?_
  refine wp_sr ?_
  refine wl_mv HF rfl rfl rfl rfl rfl ?_;clear HF a;intro a HF
  refine wl_y rfl HF rfl rfl (yl_eqlS rfl (HF.ev rfl) (HF.ev rfl)) ?_;clear HF a;intro a HF
  refine wl_ne ?_
  refine HF.cases 12 rfl (fun cc1 HF1 => ?_) (fun cc1 HF1 => ?_)
  · clear HF; have HF := HF1; clear HF1
    refine wc_true HF rfl ?_
    refine wp_sr ?_
    refine wl_y rfl HF rfl rfl (yl_build HF rfl (ps := []) rfl (cs := #[.int .i64 0, .int .i64 0, .int .i64 0, .int .i64 0, .int .i64 0]) (by kernel_rfl)) ?_;clear HF a;intro a HF
    refine wl_storeBox rfl HF rfl rfl (HF.ev rfl) (HF.ev rfl) HS.out 0 rfl (cells_lit [.int .i64 0, .int .i64 0, .int .i64 0, .int .i64 0, .int .i64 0] rfl rfl) (by kernel_rfl) ?_; clear HS; intro w2 HS; replace HS := Bx.mk HS
    have HS : Bx (St w0 ([boxA b1 5 38 (.agg #[.int .i64 0, .int .i64 0, .int .i64 0, .int .i64 0, .int .i64 0])]) _) := HS
    refine wl_as HF rfl rfl rfl rfl rfl ?_;clear HF a;intro a HF
    refine wl_ne ?_
    refine wp_ret ?_
    refine ex_then_ret ?_
    refine bp_ret2 HF Tryz.results168 (HF.resBox rfl (HS.out.box 0 rfl) (by kernel_rfl)) (HF.res rfl) ?_
    exact .inl ⟨PtrD.zero, by decide, (ptrB_hole (by decide) (by decide)).trans (bytes_toList cc1).symm, rfl, HS.out.bel⟩
  · clear HF; have HF := HF1; clear HF1
    refine wc_false HF rfl ?_
    refine wp_skip ?_
    refine ex_then ?_
    refine wp_sr ?_
    refine wl_alloc rfl HF rfl rfl rfl (Z := [.int .i64 0, .int .i64 0, .int .i64 0, .int .i64 0, .int .i64 0]) (by kernel_rfl) rfl HS.out ?_; clear HF HS a; intro a w3 b2 HF HS; replace HS := Bx.mk HS
    refine wl_ne ?_
    refine wp_sr ?_
    refine wl_mv HF rfl rfl rfl rfl rfl ?_;clear HF a;intro a HF
    refine wl_call rfl HF rfl (enter_of Tryz.func175 (by kernel_rfl) rfl) (args := #[.string s, .string (⟨#[46]⟩ : ByteArray)]) rfl (split_any s 46 _ (by omega) (HM.out.below HS.out.bel)) rfl rfl ?_
    rintro _ w4 ⟨ao3, cp3, rfl, hs⟩
    refine ⟨_, rfl, ?_⟩
    replace HS := Bx.mk (HS.out.add hs); clear hs HF; clear a; intro a HF
    replace HS : Bx (St w0 ([rowA encS 1 9 (.slice ao3 ((piecesB s 46).length) cp3) (piecesB s 46), boxA b2 5 38 (.agg #[.int .i64 0, .int .i64 0, .int .i64 0, .int .i64 0, .int .i64 0]), boxA b1 5 38 (.agg #[.int .i64 0, .int .i64 0, .int .i64 0, .int .i64 0, .int .i64 0])]) _) := ⟨HS.out⟩
    refine wl_as HF rfl rfl rfl rfl rfl ?_;clear HF a;intro a HF
    refine wl_ne ?_
    refine wp_sr ?_
    refine wl_call rfl HF rfl (enter_of Tryz.func158 (by kernel_rfl) rfl) (args := #[.pointer (some ⟨b2, 0, none⟩)]) rfl (parts_any b2 _) rfl rfl ?_
    rintro _ w5 ⟨ao4, cp4, rfl, hs⟩
    refine ⟨_, rfl, ?_⟩
    replace HS := Bx.mk (HS.out.add hs); clear hs HF; clear a; intro a HF
    replace HS : Bx (St w0 ([rowA encA 1 173 (.slice ao4 5 cp4) ([(some ⟨b2, 0 + 0, none⟩), (some ⟨b2, 0 + 1, none⟩), (some ⟨b2, 0 + 2, none⟩), (some ⟨b2, 0 + 3, none⟩), (some ⟨b2, 0 + 4, none⟩)]), rowA encS 1 9 (.slice ao3 ((piecesB s 46).length) cp3) (piecesB s 46), boxA b2 5 38 (.agg #[.int .i64 0, .int .i64 0, .int .i64 0, .int .i64 0, .int .i64 0]), boxA b1 5 38 (.agg #[.int .i64 0, .int .i64 0, .int .i64 0, .int .i64 0, .int .i64 0])]) _) := ⟨HS.out⟩
    refine wl_as HF rfl rfl rfl rfl rfl ?_;clear HF a;intro a HF
    refine wl_ne ?_
    refine wp_seq ?_
    refine wp_sr ?_
    refine wl_mv HF rfl rfl rfl rfl rfl ?_;clear HF a;intro a HF
    refine wl_y rfl HF rfl rfl (yl_lenL (e := 9) (size := 1) rfl (HF.ev rfl) (by kernel_rfl)) ?_;clear HF a;intro a HF
    refine wl_mv HF rfl rfl rfl rfl rfl ?_;clear HF a;intro a HF
    refine wl_y rfl HF rfl rfl (yl_lenL (e := 173) (size := 1) rfl (HF.ev rfl) (by kernel_rfl)) ?_;clear HF a;intro a HF
    refine wl_y rfl HF rfl rfl (yl_neqI rfl (HF.ev rfl) (HF.ev rfl)) ?_;clear HF a;intro a HF
    refine wl_ne ?_
    refine HF.cases 21 rfl (fun cc2 HF1 => ?_) (fun cc2 HF1 => ?_)
    · clear HF; have HF := HF1; clear HF1
      have dcc2 := bne_iff_ne.1 cc2
      refine wc_true HF rfl ?_
      refine wp_sr ?_
      refine wl_y rfl HF rfl rfl (yl_build HF rfl (ps := []) rfl (cs := #[.int .i64 0, .int .i64 0, .int .i64 0, .int .i64 0, .int .i64 0]) (by kernel_rfl)) ?_;clear HF a;intro a HF
      refine wl_storeBox rfl HF rfl rfl (HF.ev rfl) (HF.ev rfl) HS.out 3 rfl (cells_lit [.int .i64 0, .int .i64 0, .int .i64 0, .int .i64 0, .int .i64 0] rfl rfl) (by kernel_rfl) ?_; clear HS; intro w6 HS; replace HS := Bx.mk HS
      have HS : Bx (St w0 ([rowA encA 1 173 (.slice ao4 5 cp4) ([(some ⟨b2, 0 + 0, none⟩), (some ⟨b2, 0 + 1, none⟩), (some ⟨b2, 0 + 2, none⟩), (some ⟨b2, 0 + 3, none⟩), (some ⟨b2, 0 + 4, none⟩)]), rowA encS 1 9 (.slice ao3 ((piecesB s 46).length) cp3) (piecesB s 46), boxA b2 5 38 (.agg #[.int .i64 0, .int .i64 0, .int .i64 0, .int .i64 0, .int .i64 0]), boxA b1 5 38 (.agg #[.int .i64 0, .int .i64 0, .int .i64 0, .int .i64 0, .int .i64 0])]) _) := HS
      refine wl_as HF rfl rfl rfl rfl rfl ?_;clear HF a;intro a HF
      refine wl_ne ?_
      refine wp_ret ?_
      refine ex_then_ret ?_
      refine bp_ret2 HF Tryz.results168 (HF.resBox rfl (HS.out.box 3 rfl) (by kernel_rfl)) (HF.res rfl) ?_
      refine .inr ⟨fun q hq hqs => ?_, rfl, HS.out.bel⟩
      have hqh := ptr_dash hq hqs (by simpa using cc1); have hqp := ptr_pieces hq hqh; rw [hqs] at hqp; have hqb := PtrD.ok_all hq hqh
      rw [hqp] at dcc2; exact dcc2 rfl
    · clear HF; have HF := HF1; clear HF1
      have dcc2 := bne_eq_false_iff_eq.1 cc2
      refine wc_false HF rfl ?_
      refine wp_skip ?_
      refine ex_then ?_
      refine wp_seq ?_
      refine wp_seq ?_
      obtain ⟨x0, x1, x2, x3, x4, hws⟩ := len5 (l := piecesB s 46) (by omega); rw [hws] at HS HF
      replace HF : Fr 51 a [(0, .string s), (2, .pointer (some ⟨b1, 0, none⟩)), (3, .bool false), (11, .string s), (12, .bool false), (4, .pointer (some ⟨b2, 0, none⟩)), (14, .string s), (15, .slice ao3 5 cp3), (5, .slice ao3 5 cp3), (16, .slice ao4 5 cp4), (6, .slice ao4 5 cp4), (17, .slice ao3 5 cp3), (19, .slice ao4 5 cp4), (20, .int .i64 (5 : Int)), (21, .bool false)] := HF.less _ ⟨rfl, rfl, rfl, rfl, rfl, rfl, rfl, rfl, rfl, rfl, rfl, rfl, rfl, rfl, rfl, trivial⟩
      replace HS : Bx (St w0 ([rowA encA 1 173 (.slice ao4 5 cp4) ([(some ⟨b2, 0 + 0, none⟩), (some ⟨b2, 0 + 1, none⟩), (some ⟨b2, 0 + 2, none⟩), (some ⟨b2, 0 + 3, none⟩), (some ⟨b2, 0 + 4, none⟩)]), rowA encS 1 9 (.slice ao3 5 cp3) ([x0, x1, x2, x3, x4]), boxA b2 5 38 (.agg #[.int .i64 0, .int .i64 0, .int .i64 0, .int .i64 0, .int .i64 0]), boxA b1 5 38 (.agg #[.int .i64 0, .int .i64 0, .int .i64 0, .int .i64 0, .int .i64 0])]) _) := ⟨HS.out⟩
      obtain ⟨g5, rfl, _, _, _, _⟩ := HS.out.rowOpen 1 rfl (Nat.succ_pos _)
      obtain ⟨g6, rfl, _, _, _, _⟩ := HS.out.rowOpen 0 rfl (Nat.succ_pos _)
      refine wp_region_lit ?_
      refine wl_mv HF rfl rfl rfl rfl rfl ?_;clear HF a;intro a HF
      refine wl_y rfl HF rfl rfl (yl_lenL (e := 9) (size := 1) rfl (HF.ev rfl) (by kernel_rfl)) ?_;clear HF a;intro a HF
      refine wl_mv HF rfl rfl rfl rfl rfl ?_;clear HF a;intro a HF
      refine wl_ne ?_
      refine wp_block ?_
      refine wc_rounds 6 ?_
      refine wp_sr ?_
      refine wl_y rfl HF rfl rfl (yl_lssI rfl (HF.ev rfl) (HF.ev rfl)) ?_;clear HF a;intro a HF
      refine wl_ne ?_
      refine wp_seq ?_
      replace HF := HF.know (k := 26) (c := true) rfl (by decide)
      refine wc_true HF rfl ?_
      refine wp_skip ?_
      refine ex_then ?_
      refine wp_seq ?_
      refine wp_block ?_
      refine wp_sr ?_
      refine wl_mv HF rfl rfl rfl rfl rfl ?_;clear HF a;intro a HF
      refine wl_y rfl HF rfl rfl (yl_indexAddr (e := 9) (i := 0) (size := 1) rfl (HF.ev rfl) (HF.ev rfl) (by kernel_rfl) rfl (by omega)) ?_;clear HF a;intro a HF
      refine wl_y rfl HF rfl rfl (yl_load (v := .string x0) rfl (HF.ev rfl) (HS.out.elem1 encS_len 1 rfl (show ([x0, x1, x2, x3, x4] : List _)[0]? = some _ from rfl) rfl) (by kernel_rfl)) ?_;clear HF a;intro a HF
      refine wl_as HF rfl rfl rfl rfl rfl ?_;clear HF a;intro a HF
      refine wl_as HF rfl rfl rfl rfl rfl ?_;clear HF a;intro a HF
      refine wl_ne ?_
      refine wp_sr ?_
      refine wl_mv HF rfl rfl rfl rfl rfl ?_;clear HF a;intro a HF
      refine wl_call rfl HF rfl (enter_of Tryz.func143 (by kernel_rfl) rfl) (args := #[.string x0]) rfl (implNumGet_any x0 _ (HT.out.below HS.out.bel) (HE.out.below HS.out.bel)) rfl rfl ?_
      rintro _ w7 (⟨n7, hg7, rfl, hb⟩ | ⟨hg7, rfl, hb⟩)
      · skip
        refine ⟨_, rfl, ?_⟩; replace HS := Bx.mk (HS.out.later hb); clear hb HF; clear a; intro a HF
        refine wl_mv HF rfl rfl rfl rfl rfl ?_;clear HF a;intro a HF
        refine wl_y rfl HF rfl rfl (yl_extract rfl (HF.ev rfl) rfl) ?_;clear HF a;intro a HF
        refine wl_y rfl HF rfl rfl (yl_extract rfl (HF.ev rfl) rfl) ?_;clear HF a;intro a HF
        refine wl_as HF rfl rfl rfl rfl rfl ?_;clear HF a;intro a HF
        refine wl_as HF rfl rfl rfl rfl rfl ?_;clear HF a;intro a HF
        refine wl_ne ?_
        refine wp_seq ?_
        refine wp_sr ?_
        refine wl_mv HF rfl rfl rfl rfl rfl ?_;clear HF a;intro a HF
        refine wl_y rfl HF rfl rfl (yl_not rfl (HF.ev rfl)) ?_;clear HF a;intro a HF
        refine wl_ne ?_
        refine wc_false HF rfl ?_
        refine wp_skip ?_
        refine ex_then ?_
        refine wp_region_lit ?_
        refine wl_mv HF rfl rfl rfl rfl rfl ?_;clear HF a;intro a HF
        refine wl_mv HF rfl rfl rfl rfl rfl ?_;clear HF a;intro a HF
        refine wl_y rfl HF rfl rfl (yl_indexAddr (e := 173) (i := 0) (size := 1) rfl (HF.ev rfl) (HF.ev rfl) (by kernel_rfl) rfl (by omega)) ?_;clear HF a;intro a HF
        refine wl_y rfl HF rfl rfl (yl_load (v := .pointer (some ⟨b2, 0 + 0, none⟩)) rfl (HF.ev rfl) (HS.out.elem1 encA_len 0 rfl (show ([(some ⟨b2, 0 + 0, none⟩), (some ⟨b2, 0 + 1, none⟩), (some ⟨b2, 0 + 2, none⟩), (some ⟨b2, 0 + 3, none⟩), (some ⟨b2, 0 + 4, none⟩)] : List (Option Addr))[0]? = some _ from rfl) rfl) (by kernel_rfl)) ?_;clear HF a;intro a HF
        refine wl_mv HF rfl rfl rfl rfl rfl ?_;clear HF a;intro a HF
        refine wl_y rfl HF rfl rfl (yl_nilCheck rfl (HF.ev rfl)) ?_;clear HF a;intro a HF
        refine wl_storeF rfl rfl rfl (HF.ev rfl) (HF.ev rfl) (by kernel_rfl) HS.out 2 rfl rfl rfl ?_; clear HS; intro w8 HS; replace HS := Bx.mk HS
        have HS : Bx (St w0 ([rowA encA 1 173 (.slice (some ⟨g6, 0, none⟩) 5 cp4) ([(some ⟨b2, 0 + 0, none⟩), (some ⟨b2, 0 + 1, none⟩), (some ⟨b2, 0 + 2, none⟩), (some ⟨b2, 0 + 3, none⟩), (some ⟨b2, 0 + 4, none⟩)]), rowA encS 1 9 (.slice (some ⟨g5, 0, none⟩) 5 cp3) ([x0, x1, x2, x3, x4]), boxA b2 5 38 (.agg #[.int .i64 (n7 : Int), .int .i64 0, .int .i64 0, .int .i64 0, .int .i64 0]), boxA b1 5 38 (.agg #[.int .i64 0, .int .i64 0, .int .i64 0, .int .i64 0, .int .i64 0])]) _) := HS
        refine wpList_nil ?_
        refine ex_block ?_
        refine ex_then ?_
        refine wp_region_lit ?_
        refine wl_y rfl HF rfl rfl (yl_addI (r := 1) rfl (HF.ev rfl) (HF.ev rfl) (by decide)) ?_;clear HF a;intro a HF
        refine wl_mv HF rfl rfl rfl rfl rfl ?_;clear HF a;intro a HF
        refine wl_ne ?_
        refine wc_round 5 ?_
        refine wp_sr ?_
        refine wl_y rfl HF rfl rfl (yl_lssI rfl (HF.ev rfl) (HF.ev rfl)) ?_;clear HF a;intro a HF
        refine wl_ne ?_
        refine wp_seq ?_
        replace HF := HF.know (k := 26) (c := true) rfl (by decide)
        refine wc_true HF rfl ?_
        refine wp_skip ?_
        refine ex_then ?_
        refine wp_seq ?_
        refine wp_block ?_
        refine wp_sr ?_
        refine wl_mv HF rfl rfl rfl rfl rfl ?_;clear HF a;intro a HF
        refine wl_y rfl HF rfl rfl (yl_indexAddr (e := 9) (i := 1) (size := 1) rfl (HF.ev rfl) (HF.ev rfl) (by kernel_rfl) rfl (by omega)) ?_;clear HF a;intro a HF
        refine wl_y rfl HF rfl rfl (yl_load (v := .string x1) rfl (HF.ev rfl) (HS.out.elem1 encS_len 1 rfl (show ([x0, x1, x2, x3, x4] : List _)[1]? = some _ from rfl) rfl) (by kernel_rfl)) ?_;clear HF a;intro a HF
        refine wl_as HF rfl rfl rfl rfl rfl ?_;clear HF a;intro a HF
        refine wl_as HF rfl rfl rfl rfl rfl ?_;clear HF a;intro a HF
        refine wl_ne ?_
        refine wp_sr ?_
        refine wl_mv HF rfl rfl rfl rfl rfl ?_;clear HF a;intro a HF
        refine wl_call rfl HF rfl (enter_of Tryz.func143 (by kernel_rfl) rfl) (args := #[.string x1]) rfl (implNumGet_any x1 _ (HT.out.below HS.out.bel) (HE.out.below HS.out.bel)) rfl rfl ?_
        rintro _ w9 (⟨n8, hg8, rfl, hb⟩ | ⟨hg8, rfl, hb⟩)
        · skip
          refine ⟨_, rfl, ?_⟩; replace HS := Bx.mk (HS.out.later hb); clear hb HF; clear a; intro a HF
          refine wl_mv HF rfl rfl rfl rfl rfl ?_;clear HF a;intro a HF
          refine wl_y rfl HF rfl rfl (yl_extract rfl (HF.ev rfl) rfl) ?_;clear HF a;intro a HF
          refine wl_y rfl HF rfl rfl (yl_extract rfl (HF.ev rfl) rfl) ?_;clear HF a;intro a HF
          refine wl_as HF rfl rfl rfl rfl rfl ?_;clear HF a;intro a HF
          refine wl_as HF rfl rfl rfl rfl rfl ?_;clear HF a;intro a HF
          refine wl_ne ?_
          refine wp_seq ?_
          refine wp_sr ?_
          refine wl_mv HF rfl rfl rfl rfl rfl ?_;clear HF a;intro a HF
          refine wl_y rfl HF rfl rfl (yl_not rfl (HF.ev rfl)) ?_;clear HF a;intro a HF
          refine wl_ne ?_
          refine wc_false HF rfl ?_
          refine wp_skip ?_
          refine ex_then ?_
          refine wp_region_lit ?_
          refine wl_mv HF rfl rfl rfl rfl rfl ?_;clear HF a;intro a HF
          refine wl_mv HF rfl rfl rfl rfl rfl ?_;clear HF a;intro a HF
          refine wl_y rfl HF rfl rfl (yl_indexAddr (e := 173) (i := 1) (size := 1) rfl (HF.ev rfl) (HF.ev rfl) (by kernel_rfl) rfl (by omega)) ?_;clear HF a;intro a HF
          refine wl_y rfl HF rfl rfl (yl_load (v := .pointer (some ⟨b2, 0 + 1, none⟩)) rfl (HF.ev rfl) (HS.out.elem1 encA_len 0 rfl (show ([(some ⟨b2, 0 + 0, none⟩), (some ⟨b2, 0 + 1, none⟩), (some ⟨b2, 0 + 2, none⟩), (some ⟨b2, 0 + 3, none⟩), (some ⟨b2, 0 + 4, none⟩)] : List (Option Addr))[1]? = some _ from rfl) rfl) (by kernel_rfl)) ?_;clear HF a;intro a HF
          refine wl_mv HF rfl rfl rfl rfl rfl ?_;clear HF a;intro a HF
          refine wl_y rfl HF rfl rfl (yl_nilCheck rfl (HF.ev rfl)) ?_;clear HF a;intro a HF
          refine wl_storeF rfl rfl rfl (HF.ev rfl) (HF.ev rfl) (by kernel_rfl) HS.out 2 rfl rfl rfl ?_; clear HS; intro w10 HS; replace HS := Bx.mk HS
          have HS : Bx (St w0 ([rowA encA 1 173 (.slice (some ⟨g6, 0, none⟩) 5 cp4) ([(some ⟨b2, 0 + 0, none⟩), (some ⟨b2, 0 + 1, none⟩), (some ⟨b2, 0 + 2, none⟩), (some ⟨b2, 0 + 3, none⟩), (some ⟨b2, 0 + 4, none⟩)]), rowA encS 1 9 (.slice (some ⟨g5, 0, none⟩) 5 cp3) ([x0, x1, x2, x3, x4]), boxA b2 5 38 (.agg #[.int .i64 (n7 : Int), .int .i64 (n8 : Int), .int .i64 0, .int .i64 0, .int .i64 0]), boxA b1 5 38 (.agg #[.int .i64 0, .int .i64 0, .int .i64 0, .int .i64 0, .int .i64 0])]) _) := HS
          refine wpList_nil ?_
          refine ex_block ?_
          refine ex_then ?_
          refine wp_region_lit ?_
          refine wl_y rfl HF rfl rfl (yl_addI (r := 2) rfl (HF.ev rfl) (HF.ev rfl) (by decide)) ?_;clear HF a;intro a HF
          refine wl_mv HF rfl rfl rfl rfl rfl ?_;clear HF a;intro a HF
          refine wl_ne ?_
          refine wc_round 4 ?_
          refine wp_sr ?_
          refine wl_y rfl HF rfl rfl (yl_lssI rfl (HF.ev rfl) (HF.ev rfl)) ?_;clear HF a;intro a HF
          refine wl_ne ?_
          refine wp_seq ?_
          replace HF := HF.know (k := 26) (c := true) rfl (by decide)
          refine wc_true HF rfl ?_
          refine wp_skip ?_
          refine ex_then ?_
          refine wp_seq ?_
          refine wp_block ?_
          refine wp_sr ?_
          refine wl_mv HF rfl rfl rfl rfl rfl ?_;clear HF a;intro a HF
          refine wl_y rfl HF rfl rfl (yl_indexAddr (e := 9) (i := 2) (size := 1) rfl (HF.ev rfl) (HF.ev rfl) (by kernel_rfl) rfl (by omega)) ?_;clear HF a;intro a HF
          refine wl_y rfl HF rfl rfl (yl_load (v := .string x2) rfl (HF.ev rfl) (HS.out.elem1 encS_len 1 rfl (show ([x0, x1, x2, x3, x4] : List _)[2]? = some _ from rfl) rfl) (by kernel_rfl)) ?_;clear HF a;intro a HF
          refine wl_as HF rfl rfl rfl rfl rfl ?_;clear HF a;intro a HF
          refine wl_as HF rfl rfl rfl rfl rfl ?_;clear HF a;intro a HF
          refine wl_ne ?_
          refine wp_sr ?_
          refine wl_mv HF rfl rfl rfl rfl rfl ?_;clear HF a;intro a HF
          refine wl_call rfl HF rfl (enter_of Tryz.func143 (by kernel_rfl) rfl) (args := #[.string x2]) rfl (implNumGet_any x2 _ (HT.out.below HS.out.bel) (HE.out.below HS.out.bel)) rfl rfl ?_
          rintro _ w11 (⟨n9, hg9, rfl, hb⟩ | ⟨hg9, rfl, hb⟩)
          · skip
            refine ⟨_, rfl, ?_⟩; replace HS := Bx.mk (HS.out.later hb); clear hb HF; clear a; intro a HF
            refine wl_mv HF rfl rfl rfl rfl rfl ?_;clear HF a;intro a HF
            refine wl_y rfl HF rfl rfl (yl_extract rfl (HF.ev rfl) rfl) ?_;clear HF a;intro a HF
            refine wl_y rfl HF rfl rfl (yl_extract rfl (HF.ev rfl) rfl) ?_;clear HF a;intro a HF
            refine wl_as HF rfl rfl rfl rfl rfl ?_;clear HF a;intro a HF
            refine wl_as HF rfl rfl rfl rfl rfl ?_;clear HF a;intro a HF
            refine wl_ne ?_
            refine wp_seq ?_
            refine wp_sr ?_
            refine wl_mv HF rfl rfl rfl rfl rfl ?_;clear HF a;intro a HF
            refine wl_y rfl HF rfl rfl (yl_not rfl (HF.ev rfl)) ?_;clear HF a;intro a HF
            refine wl_ne ?_
            refine wc_false HF rfl ?_
            refine wp_skip ?_
            refine ex_then ?_
            refine wp_region_lit ?_
            refine wl_mv HF rfl rfl rfl rfl rfl ?_;clear HF a;intro a HF
            refine wl_mv HF rfl rfl rfl rfl rfl ?_;clear HF a;intro a HF
            refine wl_y rfl HF rfl rfl (yl_indexAddr (e := 173) (i := 2) (size := 1) rfl (HF.ev rfl) (HF.ev rfl) (by kernel_rfl) rfl (by omega)) ?_;clear HF a;intro a HF
            refine wl_y rfl HF rfl rfl (yl_load (v := .pointer (some ⟨b2, 0 + 2, none⟩)) rfl (HF.ev rfl) (HS.out.elem1 encA_len 0 rfl (show ([(some ⟨b2, 0 + 0, none⟩), (some ⟨b2, 0 + 1, none⟩), (some ⟨b2, 0 + 2, none⟩), (some ⟨b2, 0 + 3, none⟩), (some ⟨b2, 0 + 4, none⟩)] : List (Option Addr))[2]? = some _ from rfl) rfl) (by kernel_rfl)) ?_;clear HF a;intro a HF
            refine wl_mv HF rfl rfl rfl rfl rfl ?_;clear HF a;intro a HF
            refine wl_y rfl HF rfl rfl (yl_nilCheck rfl (HF.ev rfl)) ?_;clear HF a;intro a HF
            refine wl_storeF rfl rfl rfl (HF.ev rfl) (HF.ev rfl) (by kernel_rfl) HS.out 2 rfl rfl rfl ?_; clear HS; intro w12 HS; replace HS := Bx.mk HS
            have HS : Bx (St w0 ([rowA encA 1 173 (.slice (some ⟨g6, 0, none⟩) 5 cp4) ([(some ⟨b2, 0 + 0, none⟩), (some ⟨b2, 0 + 1, none⟩), (some ⟨b2, 0 + 2, none⟩), (some ⟨b2, 0 + 3, none⟩), (some ⟨b2, 0 + 4, none⟩)]), rowA encS 1 9 (.slice (some ⟨g5, 0, none⟩) 5 cp3) ([x0, x1, x2, x3, x4]), boxA b2 5 38 (.agg #[.int .i64 (n7 : Int), .int .i64 (n8 : Int), .int .i64 (n9 : Int), .int .i64 0, .int .i64 0]), boxA b1 5 38 (.agg #[.int .i64 0, .int .i64 0, .int .i64 0, .int .i64 0, .int .i64 0])]) _) := HS
            refine wpList_nil ?_
            refine ex_block ?_
            refine ex_then ?_
            refine wp_region_lit ?_
            refine wl_y rfl HF rfl rfl (yl_addI (r := 3) rfl (HF.ev rfl) (HF.ev rfl) (by decide)) ?_;clear HF a;intro a HF
            refine wl_mv HF rfl rfl rfl rfl rfl ?_;clear HF a;intro a HF
            refine wl_ne ?_
            refine wc_round 3 ?_
            refine wp_sr ?_
            refine wl_y rfl HF rfl rfl (yl_lssI rfl (HF.ev rfl) (HF.ev rfl)) ?_;clear HF a;intro a HF
            refine wl_ne ?_
            refine wp_seq ?_
            replace HF := HF.know (k := 26) (c := true) rfl (by decide)
            refine wc_true HF rfl ?_
            refine wp_skip ?_
            refine ex_then ?_
            refine wp_seq ?_
            refine wp_block ?_
            refine wp_sr ?_
            refine wl_mv HF rfl rfl rfl rfl rfl ?_;clear HF a;intro a HF
            refine wl_y rfl HF rfl rfl (yl_indexAddr (e := 9) (i := 3) (size := 1) rfl (HF.ev rfl) (HF.ev rfl) (by kernel_rfl) rfl (by omega)) ?_;clear HF a;intro a HF
            refine wl_y rfl HF rfl rfl (yl_load (v := .string x3) rfl (HF.ev rfl) (HS.out.elem1 encS_len 1 rfl (show ([x0, x1, x2, x3, x4] : List _)[3]? = some _ from rfl) rfl) (by kernel_rfl)) ?_;clear HF a;intro a HF
            refine wl_as HF rfl rfl rfl rfl rfl ?_;clear HF a;intro a HF
            refine wl_as HF rfl rfl rfl rfl rfl ?_;clear HF a;intro a HF
            refine wl_ne ?_
            refine wp_sr ?_
            refine wl_mv HF rfl rfl rfl rfl rfl ?_;clear HF a;intro a HF
            refine wl_call rfl HF rfl (enter_of Tryz.func143 (by kernel_rfl) rfl) (args := #[.string x3]) rfl (implNumGet_any x3 _ (HT.out.below HS.out.bel) (HE.out.below HS.out.bel)) rfl rfl ?_
            rintro _ w13 (⟨n10, hg10, rfl, hb⟩ | ⟨hg10, rfl, hb⟩)
            · skip
              refine ⟨_, rfl, ?_⟩; replace HS := Bx.mk (HS.out.later hb); clear hb HF; clear a; intro a HF
              refine wl_mv HF rfl rfl rfl rfl rfl ?_;clear HF a;intro a HF
              refine wl_y rfl HF rfl rfl (yl_extract rfl (HF.ev rfl) rfl) ?_;clear HF a;intro a HF
              refine wl_y rfl HF rfl rfl (yl_extract rfl (HF.ev rfl) rfl) ?_;clear HF a;intro a HF
              refine wl_as HF rfl rfl rfl rfl rfl ?_;clear HF a;intro a HF
              refine wl_as HF rfl rfl rfl rfl rfl ?_;clear HF a;intro a HF
              refine wl_ne ?_
              refine wp_seq ?_
              refine wp_sr ?_
              refine wl_mv HF rfl rfl rfl rfl rfl ?_;clear HF a;intro a HF
              refine wl_y rfl HF rfl rfl (yl_not rfl (HF.ev rfl)) ?_;clear HF a;intro a HF
              refine wl_ne ?_
              refine wc_false HF rfl ?_
              refine wp_skip ?_
              refine ex_then ?_
              refine wp_region_lit ?_
              refine wl_mv HF rfl rfl rfl rfl rfl ?_;clear HF a;intro a HF
              refine wl_mv HF rfl rfl rfl rfl rfl ?_;clear HF a;intro a HF
              refine wl_y rfl HF rfl rfl (yl_indexAddr (e := 173) (i := 3) (size := 1) rfl (HF.ev rfl) (HF.ev rfl) (by kernel_rfl) rfl (by omega)) ?_;clear HF a;intro a HF
              refine wl_y rfl HF rfl rfl (yl_load (v := .pointer (some ⟨b2, 0 + 3, none⟩)) rfl (HF.ev rfl) (HS.out.elem1 encA_len 0 rfl (show ([(some ⟨b2, 0 + 0, none⟩), (some ⟨b2, 0 + 1, none⟩), (some ⟨b2, 0 + 2, none⟩), (some ⟨b2, 0 + 3, none⟩), (some ⟨b2, 0 + 4, none⟩)] : List (Option Addr))[3]? = some _ from rfl) rfl) (by kernel_rfl)) ?_;clear HF a;intro a HF
              refine wl_mv HF rfl rfl rfl rfl rfl ?_;clear HF a;intro a HF
              refine wl_y rfl HF rfl rfl (yl_nilCheck rfl (HF.ev rfl)) ?_;clear HF a;intro a HF
              refine wl_storeF rfl rfl rfl (HF.ev rfl) (HF.ev rfl) (by kernel_rfl) HS.out 2 rfl rfl rfl ?_; clear HS; intro w14 HS; replace HS := Bx.mk HS
              have HS : Bx (St w0 ([rowA encA 1 173 (.slice (some ⟨g6, 0, none⟩) 5 cp4) ([(some ⟨b2, 0 + 0, none⟩), (some ⟨b2, 0 + 1, none⟩), (some ⟨b2, 0 + 2, none⟩), (some ⟨b2, 0 + 3, none⟩), (some ⟨b2, 0 + 4, none⟩)]), rowA encS 1 9 (.slice (some ⟨g5, 0, none⟩) 5 cp3) ([x0, x1, x2, x3, x4]), boxA b2 5 38 (.agg #[.int .i64 (n7 : Int), .int .i64 (n8 : Int), .int .i64 (n9 : Int), .int .i64 (n10 : Int), .int .i64 0]), boxA b1 5 38 (.agg #[.int .i64 0, .int .i64 0, .int .i64 0, .int .i64 0, .int .i64 0])]) _) := HS
              refine wpList_nil ?_
              refine ex_block ?_
              refine ex_then ?_
              refine wp_region_lit ?_
              refine wl_y rfl HF rfl rfl (yl_addI (r := 4) rfl (HF.ev rfl) (HF.ev rfl) (by decide)) ?_;clear HF a;intro a HF
              refine wl_mv HF rfl rfl rfl rfl rfl ?_;clear HF a;intro a HF
              refine wl_ne ?_
              refine wc_round 2 ?_
              refine wp_sr ?_
              refine wl_y rfl HF rfl rfl (yl_lssI rfl (HF.ev rfl) (HF.ev rfl)) ?_;clear HF a;intro a HF
              refine wl_ne ?_
              refine wp_seq ?_
              replace HF := HF.know (k := 26) (c := true) rfl (by decide)
              refine wc_true HF rfl ?_
              refine wp_skip ?_
              refine ex_then ?_
              refine wp_seq ?_
              refine wp_block ?_
              refine wp_sr ?_
              refine wl_mv HF rfl rfl rfl rfl rfl ?_;clear HF a;intro a HF
              refine wl_y rfl HF rfl rfl (yl_indexAddr (e := 9) (i := 4) (size := 1) rfl (HF.ev rfl) (HF.ev rfl) (by kernel_rfl) rfl (by omega)) ?_;clear HF a;intro a HF
              refine wl_y rfl HF rfl rfl (yl_load (v := .string x4) rfl (HF.ev rfl) (HS.out.elem1 encS_len 1 rfl (show ([x0, x1, x2, x3, x4] : List _)[4]? = some _ from rfl) rfl) (by kernel_rfl)) ?_;clear HF a;intro a HF
              refine wl_as HF rfl rfl rfl rfl rfl ?_;clear HF a;intro a HF
              refine wl_as HF rfl rfl rfl rfl rfl ?_;clear HF a;intro a HF
              refine wl_ne ?_
              refine wp_sr ?_
              refine wl_mv HF rfl rfl rfl rfl rfl ?_;clear HF a;intro a HF
              refine wl_call rfl HF rfl (enter_of Tryz.func143 (by kernel_rfl) rfl) (args := #[.string x4]) rfl (implNumGet_any x4 _ (HT.out.below HS.out.bel) (HE.out.below HS.out.bel)) rfl rfl ?_
              rintro _ w15 (⟨n11, hg11, rfl, hb⟩ | ⟨hg11, rfl, hb⟩)
              · skip
                refine ⟨_, rfl, ?_⟩; replace HS := Bx.mk (HS.out.later hb); clear hb HF; clear a; intro a HF
                refine wl_mv HF rfl rfl rfl rfl rfl ?_;clear HF a;intro a HF
                refine wl_y rfl HF rfl rfl (yl_extract rfl (HF.ev rfl) rfl) ?_;clear HF a;intro a HF
                refine wl_y rfl HF rfl rfl (yl_extract rfl (HF.ev rfl) rfl) ?_;clear HF a;intro a HF
                refine wl_as HF rfl rfl rfl rfl rfl ?_;clear HF a;intro a HF
                refine wl_as HF rfl rfl rfl rfl rfl ?_;clear HF a;intro a HF
                refine wl_ne ?_
                refine wp_seq ?_
                refine wp_sr ?_
                refine wl_mv HF rfl rfl rfl rfl rfl ?_;clear HF a;intro a HF
                refine wl_y rfl HF rfl rfl (yl_not rfl (HF.ev rfl)) ?_;clear HF a;intro a HF
                refine wl_ne ?_
                refine wc_false HF rfl ?_
                refine wp_skip ?_
                refine ex_then ?_
                refine wp_region_lit ?_
                refine wl_mv HF rfl rfl rfl rfl rfl ?_;clear HF a;intro a HF
                refine wl_mv HF rfl rfl rfl rfl rfl ?_;clear HF a;intro a HF
                refine wl_y rfl HF rfl rfl (yl_indexAddr (e := 173) (i := 4) (size := 1) rfl (HF.ev rfl) (HF.ev rfl) (by kernel_rfl) rfl (by omega)) ?_;clear HF a;intro a HF
                refine wl_y rfl HF rfl rfl (yl_load (v := .pointer (some ⟨b2, 0 + 4, none⟩)) rfl (HF.ev rfl) (HS.out.elem1 encA_len 0 rfl (show ([(some ⟨b2, 0 + 0, none⟩), (some ⟨b2, 0 + 1, none⟩), (some ⟨b2, 0 + 2, none⟩), (some ⟨b2, 0 + 3, none⟩), (some ⟨b2, 0 + 4, none⟩)] : List (Option Addr))[4]? = some _ from rfl) rfl) (by kernel_rfl)) ?_;clear HF a;intro a HF
                refine wl_mv HF rfl rfl rfl rfl rfl ?_;clear HF a;intro a HF
                refine wl_y rfl HF rfl rfl (yl_nilCheck rfl (HF.ev rfl)) ?_;clear HF a;intro a HF
                refine wl_storeF rfl rfl rfl (HF.ev rfl) (HF.ev rfl) (by kernel_rfl) HS.out 2 rfl rfl rfl ?_; clear HS; intro w16 HS; replace HS := Bx.mk HS
                have HS : Bx (St w0 ([rowA encA 1 173 (.slice (some ⟨g6, 0, none⟩) 5 cp4) ([(some ⟨b2, 0 + 0, none⟩), (some ⟨b2, 0 + 1, none⟩), (some ⟨b2, 0 + 2, none⟩), (some ⟨b2, 0 + 3, none⟩), (some ⟨b2, 0 + 4, none⟩)]), rowA encS 1 9 (.slice (some ⟨g5, 0, none⟩) 5 cp3) ([x0, x1, x2, x3, x4]), boxA b2 5 38 (.agg #[.int .i64 (n7 : Int), .int .i64 (n8 : Int), .int .i64 (n9 : Int), .int .i64 (n10 : Int), .int .i64 (n11 : Int)]), boxA b1 5 38 (.agg #[.int .i64 0, .int .i64 0, .int .i64 0, .int .i64 0, .int .i64 0])]) _) := HS
                refine wpList_nil ?_
                refine ex_block ?_
                refine ex_then ?_
                refine wp_region_lit ?_
                refine wl_y rfl HF rfl rfl (yl_addI (r := 5) rfl (HF.ev rfl) (HF.ev rfl) (by decide)) ?_;clear HF a;intro a HF
                refine wl_mv HF rfl rfl rfl rfl rfl ?_;clear HF a;intro a HF
                refine wl_ne ?_
                refine wc_round 1 ?_
                refine wp_sr ?_
                refine wl_y rfl HF rfl rfl (yl_lssI rfl (HF.ev rfl) (HF.ev rfl)) ?_;clear HF a;intro a HF
                refine wl_ne ?_
                refine wp_seq ?_
                replace HF := HF.know (k := 26) (c := false) rfl (by decide)
                refine wc_false HF rfl ?_
                refine wp_exit ?_
                refine ex_then_exit ?_
                refine ex_then_exit ?_
                refine ex_block_hit ?_
                refine ex_then ?_
                refine wp_seq ?_
                refine wp_sr ?_
                refine wl_y rfl HF rfl rfl (yl_loadR (cs := [.int .i64 (n7 : Int), .int .i64 (n8 : Int), .int .i64 (n9 : Int), .int .i64 (n10 : Int), .int .i64 (n11 : Int)]) rfl (HF.ev rfl) ((HS.out.box 2 rfl).sub 0 5) (by kernel_rfl)) ?_;clear HF a;intro a HF
                refine wl_callB rfl HF rfl (enter_of Tryz.func127 (by kernel_rfl) rfl) (args := #[.agg #[.int .i64 (n7 : Int), .int .i64 (n8 : Int), .int .i64 (n9 : Int), .int .i64 (n10 : Int), .int .i64 (n11 : Int)]]) rfl (v := .string (ptrB (⟨(n7 : Int), (n8 : Int), (n9 : Int), (n10 : Int), (n11 : Int)⟩ : PtrD))) (ptrPutI_any (⟨(n7 : Int), (n8 : Int), (n9 : Int), (n10 : Int), (n11 : Int)⟩ : PtrD) _ (HT.out.below HS.out.bel)) rfl rfl HS.out ?_; clear HF HS a; intro w17 a HS HF; replace HS := Bx.mk HS
                refine wl_mv HF rfl rfl rfl rfl rfl ?_;clear HF a;intro a HF
                refine wl_y rfl HF rfl rfl (yl_neqS rfl (HF.ev rfl) (HF.ev rfl)) ?_;clear HF a;intro a HF
                refine wl_ne ?_
                refine HF.cases 48 rfl (fun cc3 HF1 => ?_) (fun cc3 HF1 => ?_)
                · clear HF; have HF := HF1; clear HF1
                  refine wc_true HF rfl ?_
                  refine wp_sr ?_
                  refine wl_y rfl HF rfl rfl (yl_build HF rfl (ps := []) rfl (cs := #[.int .i64 0, .int .i64 0, .int .i64 0, .int .i64 0, .int .i64 0]) (by kernel_rfl)) ?_;clear HF a;intro a HF
                  refine wl_storeBox rfl HF rfl rfl (HF.ev rfl) (HF.ev rfl) HS.out 3 rfl (cells_lit [.int .i64 0, .int .i64 0, .int .i64 0, .int .i64 0, .int .i64 0] rfl rfl) (by kernel_rfl) ?_; clear HS; intro w18 HS; replace HS := Bx.mk HS
                  have HS : Bx (St w0 ([rowA encA 1 173 (.slice (some ⟨g6, 0, none⟩) 5 cp4) ([(some ⟨b2, 0 + 0, none⟩), (some ⟨b2, 0 + 1, none⟩), (some ⟨b2, 0 + 2, none⟩), (some ⟨b2, 0 + 3, none⟩), (some ⟨b2, 0 + 4, none⟩)]), rowA encS 1 9 (.slice (some ⟨g5, 0, none⟩) 5 cp3) ([x0, x1, x2, x3, x4]), boxA b2 5 38 (.agg #[.int .i64 (n7 : Int), .int .i64 (n8 : Int), .int .i64 (n9 : Int), .int .i64 (n10 : Int), .int .i64 (n11 : Int)]), boxA b1 5 38 (.agg #[.int .i64 0, .int .i64 0, .int .i64 0, .int .i64 0, .int .i64 0])]) _) := HS
                  refine wl_as HF rfl rfl rfl rfl rfl ?_;clear HF a;intro a HF
                  refine wl_ne ?_
                  refine wp_ret ?_
                  refine ex_then_ret ?_
                  refine bp_ret2 HF Tryz.results168 (HF.resBox rfl (HS.out.box 3 rfl) (by kernel_rfl)) (HF.res rfl) ?_
                  refine .inr ⟨fun q hq hqs => ?_, rfl, HS.out.bel⟩
                  have hqh := ptr_dash hq hqs (by simpa using cc1); have hqp := ptr_pieces hq hqh; rw [hqs] at hqp; have hqb := PtrD.ok_all hq hqh
                  rw [hws] at hqp; simp only [List.cons.injEq, and_true] at hqp; obtain ⟨k0, k1, k2, k3, k4⟩ := hqp
                  rw [k0] at hg7; have j0 := num_read (n := q.fAt) (by omega) hg7
                  rw [k1] at hg8; have j1 := num_read (n := q.fBirth) (by omega) hg8
                  rw [k2] at hg9; have j2 := num_read (n := q.fSize) (by omega) hg9
                  rw [k3] at hg10; have j3 := num_read (n := q.fSum) (by omega) hg10
                  rw [k4] at hg11; have j4 := num_read (n := q.fLevel) (by omega) hg11
                  have hpq : (⟨(n7 : Int), (n8 : Int), (n9 : Int), (n10 : Int), (n11 : Int)⟩ : PtrD) = q := by rw [j0, j1, j2, j3, j4]
                  rw [hpq, hqs] at cc3; simp at cc3
                · clear HF; have HF := HF1; clear HF1
                  refine wc_false HF rfl ?_
                  refine wp_skip ?_
                  refine ex_then ?_
                  refine wp_sr ?_
                  refine wl_y rfl HF rfl rfl (yl_loadR (cs := [.int .i64 (n7 : Int), .int .i64 (n8 : Int), .int .i64 (n9 : Int), .int .i64 (n10 : Int), .int .i64 (n11 : Int)]) rfl (HF.ev rfl) ((HS.out.box 2 rfl).sub 0 5) (by kernel_rfl)) ?_;clear HF a;intro a HF
                  refine wl_storeBox rfl HF rfl rfl (HF.ev rfl) (HF.ev rfl) HS.out 3 rfl (cells_lit [.int .i64 (n7 : Int), .int .i64 (n8 : Int), .int .i64 (n9 : Int), .int .i64 (n10 : Int), .int .i64 (n11 : Int)] rfl rfl) (by kernel_rfl) ?_; clear HS; intro w19 HS; replace HS := Bx.mk HS
                  have HS : Bx (St w0 ([rowA encA 1 173 (.slice (some ⟨g6, 0, none⟩) 5 cp4) ([(some ⟨b2, 0 + 0, none⟩), (some ⟨b2, 0 + 1, none⟩), (some ⟨b2, 0 + 2, none⟩), (some ⟨b2, 0 + 3, none⟩), (some ⟨b2, 0 + 4, none⟩)]), rowA encS 1 9 (.slice (some ⟨g5, 0, none⟩) 5 cp3) ([x0, x1, x2, x3, x4]), boxA b2 5 38 (.agg #[.int .i64 (n7 : Int), .int .i64 (n8 : Int), .int .i64 (n9 : Int), .int .i64 (n10 : Int), .int .i64 (n11 : Int)]), boxA b1 5 38 (.agg #[.int .i64 (n7 : Int), .int .i64 (n8 : Int), .int .i64 (n9 : Int), .int .i64 (n10 : Int), .int .i64 (n11 : Int)])]) _) := HS
                  refine wl_as HF rfl rfl rfl rfl rfl ?_;clear HF a;intro a HF
                  refine wl_ne ?_
                  refine wp_ret ?_
                  refine bp_ret2 HF Tryz.results168 (HF.resBox rfl (HS.out.box 3 rfl) (by kernel_rfl)) (HF.res rfl) ?_
                  have hpt : ptrB (⟨(n7 : Int), (n8 : Int), (n9 : Int), (n10 : Int), (n11 : Int)⟩ : PtrD) = s := bytes_toList (by simpa using cc3)
                  have hpo : (⟨(n7 : Int), (n8 : Int), (n9 : Int), (n10 : Int), (n11 : Int)⟩ : PtrD).ok = true := by
                      cases ho : (⟨(n7 : Int), (n8 : Int), (n9 : Int), (n10 : Int), (n11 : Int)⟩ : PtrD).ok with
                      | true => rfl
                      | false =>
                        rw [ptrB_no ho] at hpt
                        rw [← hpt] at hws
                        exact absurd (congrArg List.length hws) (show ¬ (1 : Nat) = 5 by decide)
                  exact .inl ⟨_, hpo, hpt, rfl, HS.out.bel⟩
              · skip
                refine ⟨_, rfl, ?_⟩; replace HS := Bx.mk (HS.out.later hb); clear hb HF; clear a; intro a HF
                refine wl_mv HF rfl rfl rfl rfl rfl ?_;clear HF a;intro a HF
                refine wl_y rfl HF rfl rfl (yl_extract rfl (HF.ev rfl) rfl) ?_;clear HF a;intro a HF
                refine wl_y rfl HF rfl rfl (yl_extract rfl (HF.ev rfl) rfl) ?_;clear HF a;intro a HF
                refine wl_as HF rfl rfl rfl rfl rfl ?_;clear HF a;intro a HF
                refine wl_as HF rfl rfl rfl rfl rfl ?_;clear HF a;intro a HF
                refine wl_ne ?_
                refine wp_seq ?_
                refine wp_sr ?_
                refine wl_mv HF rfl rfl rfl rfl rfl ?_;clear HF a;intro a HF
                refine wl_y rfl HF rfl rfl (yl_not rfl (HF.ev rfl)) ?_;clear HF a;intro a HF
                refine wl_ne ?_
                refine wc_true HF rfl ?_
                refine wp_sr ?_
                refine wl_y rfl HF rfl rfl (yl_build HF rfl (ps := []) rfl (cs := #[.int .i64 0, .int .i64 0, .int .i64 0, .int .i64 0, .int .i64 0]) (by kernel_rfl)) ?_;clear HF a;intro a HF
                refine wl_storeBox rfl HF rfl rfl (HF.ev rfl) (HF.ev rfl) HS.out 3 rfl (cells_lit [.int .i64 0, .int .i64 0, .int .i64 0, .int .i64 0, .int .i64 0] rfl rfl) (by kernel_rfl) ?_; clear HS; intro w20 HS; replace HS := Bx.mk HS
                have HS : Bx (St w0 ([rowA encA 1 173 (.slice (some ⟨g6, 0, none⟩) 5 cp4) ([(some ⟨b2, 0 + 0, none⟩), (some ⟨b2, 0 + 1, none⟩), (some ⟨b2, 0 + 2, none⟩), (some ⟨b2, 0 + 3, none⟩), (some ⟨b2, 0 + 4, none⟩)]), rowA encS 1 9 (.slice (some ⟨g5, 0, none⟩) 5 cp3) ([x0, x1, x2, x3, x4]), boxA b2 5 38 (.agg #[.int .i64 (n7 : Int), .int .i64 (n8 : Int), .int .i64 (n9 : Int), .int .i64 (n10 : Int), .int .i64 0]), boxA b1 5 38 (.agg #[.int .i64 0, .int .i64 0, .int .i64 0, .int .i64 0, .int .i64 0])]) _) := HS
                refine wl_as HF rfl rfl rfl rfl rfl ?_;clear HF a;intro a HF
                refine wl_ne ?_
                refine wp_ret ?_
                refine ex_then_ret ?_
                refine ex_block_ret ?_
                refine ex_then_ret ?_
                refine ex_then_ret ?_
                refine ex_block_ret ?_
                refine ex_then_ret ?_
                refine bp_ret2 HF Tryz.results168 (HF.resBox rfl (HS.out.box 3 rfl) (by kernel_rfl)) (HF.res rfl) ?_
                refine .inr ⟨fun q hq hqs => ?_, rfl, HS.out.bel⟩
                have hqh := ptr_dash hq hqs (by simpa using cc1); have hqp := ptr_pieces hq hqh; rw [hqs] at hqp; have hqb := PtrD.ok_all hq hqh
                rw [hws] at hqp; simp only [List.cons.injEq, and_true] at hqp; obtain ⟨k0, k1, k2, k3, k4⟩ := hqp
                rw [k4, numG_num (by omega)] at hg11; cases hg11
            · skip
              refine ⟨_, rfl, ?_⟩; replace HS := Bx.mk (HS.out.later hb); clear hb HF; clear a; intro a HF
              refine wl_mv HF rfl rfl rfl rfl rfl ?_;clear HF a;intro a HF
              refine wl_y rfl HF rfl rfl (yl_extract rfl (HF.ev rfl) rfl) ?_;clear HF a;intro a HF
              refine wl_y rfl HF rfl rfl (yl_extract rfl (HF.ev rfl) rfl) ?_;clear HF a;intro a HF
              refine wl_as HF rfl rfl rfl rfl rfl ?_;clear HF a;intro a HF
              refine wl_as HF rfl rfl rfl rfl rfl ?_;clear HF a;intro a HF
              refine wl_ne ?_
              refine wp_seq ?_
              refine wp_sr ?_
              refine wl_mv HF rfl rfl rfl rfl rfl ?_;clear HF a;intro a HF
              refine wl_y rfl HF rfl rfl (yl_not rfl (HF.ev rfl)) ?_;clear HF a;intro a HF
              refine wl_ne ?_
              refine wc_true HF rfl ?_
              refine wp_sr ?_
              refine wl_y rfl HF rfl rfl (yl_build HF rfl (ps := []) rfl (cs := #[.int .i64 0, .int .i64 0, .int .i64 0, .int .i64 0, .int .i64 0]) (by kernel_rfl)) ?_;clear HF a;intro a HF
              refine wl_storeBox rfl HF rfl rfl (HF.ev rfl) (HF.ev rfl) HS.out 3 rfl (cells_lit [.int .i64 0, .int .i64 0, .int .i64 0, .int .i64 0, .int .i64 0] rfl rfl) (by kernel_rfl) ?_; clear HS; intro w21 HS; replace HS := Bx.mk HS
              have HS : Bx (St w0 ([rowA encA 1 173 (.slice (some ⟨g6, 0, none⟩) 5 cp4) ([(some ⟨b2, 0 + 0, none⟩), (some ⟨b2, 0 + 1, none⟩), (some ⟨b2, 0 + 2, none⟩), (some ⟨b2, 0 + 3, none⟩), (some ⟨b2, 0 + 4, none⟩)]), rowA encS 1 9 (.slice (some ⟨g5, 0, none⟩) 5 cp3) ([x0, x1, x2, x3, x4]), boxA b2 5 38 (.agg #[.int .i64 (n7 : Int), .int .i64 (n8 : Int), .int .i64 (n9 : Int), .int .i64 0, .int .i64 0]), boxA b1 5 38 (.agg #[.int .i64 0, .int .i64 0, .int .i64 0, .int .i64 0, .int .i64 0])]) _) := HS
              refine wl_as HF rfl rfl rfl rfl rfl ?_;clear HF a;intro a HF
              refine wl_ne ?_
              refine wp_ret ?_
              refine ex_then_ret ?_
              refine ex_block_ret ?_
              refine ex_then_ret ?_
              refine ex_then_ret ?_
              refine ex_block_ret ?_
              refine ex_then_ret ?_
              refine bp_ret2 HF Tryz.results168 (HF.resBox rfl (HS.out.box 3 rfl) (by kernel_rfl)) (HF.res rfl) ?_
              refine .inr ⟨fun q hq hqs => ?_, rfl, HS.out.bel⟩
              have hqh := ptr_dash hq hqs (by simpa using cc1); have hqp := ptr_pieces hq hqh; rw [hqs] at hqp; have hqb := PtrD.ok_all hq hqh
              rw [hws] at hqp; simp only [List.cons.injEq, and_true] at hqp; obtain ⟨k0, k1, k2, k3, k4⟩ := hqp
              rw [k3, numG_num (by omega)] at hg10; cases hg10
          · skip
            refine ⟨_, rfl, ?_⟩; replace HS := Bx.mk (HS.out.later hb); clear hb HF; clear a; intro a HF
            refine wl_mv HF rfl rfl rfl rfl rfl ?_;clear HF a;intro a HF
            refine wl_y rfl HF rfl rfl (yl_extract rfl (HF.ev rfl) rfl) ?_;clear HF a;intro a HF
            refine wl_y rfl HF rfl rfl (yl_extract rfl (HF.ev rfl) rfl) ?_;clear HF a;intro a HF
            refine wl_as HF rfl rfl rfl rfl rfl ?_;clear HF a;intro a HF
            refine wl_as HF rfl rfl rfl rfl rfl ?_;clear HF a;intro a HF
            refine wl_ne ?_
            refine wp_seq ?_
            refine wp_sr ?_
            refine wl_mv HF rfl rfl rfl rfl rfl ?_;clear HF a;intro a HF
            refine wl_y rfl HF rfl rfl (yl_not rfl (HF.ev rfl)) ?_;clear HF a;intro a HF
            refine wl_ne ?_
            refine wc_true HF rfl ?_
            refine wp_sr ?_
            refine wl_y rfl HF rfl rfl (yl_build HF rfl (ps := []) rfl (cs := #[.int .i64 0, .int .i64 0, .int .i64 0, .int .i64 0, .int .i64 0]) (by kernel_rfl)) ?_;clear HF a;intro a HF
            refine wl_storeBox rfl HF rfl rfl (HF.ev rfl) (HF.ev rfl) HS.out 3 rfl (cells_lit [.int .i64 0, .int .i64 0, .int .i64 0, .int .i64 0, .int .i64 0] rfl rfl) (by kernel_rfl) ?_; clear HS; intro w22 HS; replace HS := Bx.mk HS
            have HS : Bx (St w0 ([rowA encA 1 173 (.slice (some ⟨g6, 0, none⟩) 5 cp4) ([(some ⟨b2, 0 + 0, none⟩), (some ⟨b2, 0 + 1, none⟩), (some ⟨b2, 0 + 2, none⟩), (some ⟨b2, 0 + 3, none⟩), (some ⟨b2, 0 + 4, none⟩)]), rowA encS 1 9 (.slice (some ⟨g5, 0, none⟩) 5 cp3) ([x0, x1, x2, x3, x4]), boxA b2 5 38 (.agg #[.int .i64 (n7 : Int), .int .i64 (n8 : Int), .int .i64 0, .int .i64 0, .int .i64 0]), boxA b1 5 38 (.agg #[.int .i64 0, .int .i64 0, .int .i64 0, .int .i64 0, .int .i64 0])]) _) := HS
            refine wl_as HF rfl rfl rfl rfl rfl ?_;clear HF a;intro a HF
            refine wl_ne ?_
            refine wp_ret ?_
            refine ex_then_ret ?_
            refine ex_block_ret ?_
            refine ex_then_ret ?_
            refine ex_then_ret ?_
            refine ex_block_ret ?_
            refine ex_then_ret ?_
            refine bp_ret2 HF Tryz.results168 (HF.resBox rfl (HS.out.box 3 rfl) (by kernel_rfl)) (HF.res rfl) ?_
            refine .inr ⟨fun q hq hqs => ?_, rfl, HS.out.bel⟩
            have hqh := ptr_dash hq hqs (by simpa using cc1); have hqp := ptr_pieces hq hqh; rw [hqs] at hqp; have hqb := PtrD.ok_all hq hqh
            rw [hws] at hqp; simp only [List.cons.injEq, and_true] at hqp; obtain ⟨k0, k1, k2, k3, k4⟩ := hqp
            rw [k2, numG_num (by omega)] at hg9; cases hg9
        · skip
          refine ⟨_, rfl, ?_⟩; replace HS := Bx.mk (HS.out.later hb); clear hb HF; clear a; intro a HF
          refine wl_mv HF rfl rfl rfl rfl rfl ?_;clear HF a;intro a HF
          refine wl_y rfl HF rfl rfl (yl_extract rfl (HF.ev rfl) rfl) ?_;clear HF a;intro a HF
          refine wl_y rfl HF rfl rfl (yl_extract rfl (HF.ev rfl) rfl) ?_;clear HF a;intro a HF
          refine wl_as HF rfl rfl rfl rfl rfl ?_;clear HF a;intro a HF
          refine wl_as HF rfl rfl rfl rfl rfl ?_;clear HF a;intro a HF
          refine wl_ne ?_
          refine wp_seq ?_
          refine wp_sr ?_
          refine wl_mv HF rfl rfl rfl rfl rfl ?_;clear HF a;intro a HF
          refine wl_y rfl HF rfl rfl (yl_not rfl (HF.ev rfl)) ?_;clear HF a;intro a HF
          refine wl_ne ?_
          refine wc_true HF rfl ?_
          refine wp_sr ?_
          refine wl_y rfl HF rfl rfl (yl_build HF rfl (ps := []) rfl (cs := #[.int .i64 0, .int .i64 0, .int .i64 0, .int .i64 0, .int .i64 0]) (by kernel_rfl)) ?_;clear HF a;intro a HF
          refine wl_storeBox rfl HF rfl rfl (HF.ev rfl) (HF.ev rfl) HS.out 3 rfl (cells_lit [.int .i64 0, .int .i64 0, .int .i64 0, .int .i64 0, .int .i64 0] rfl rfl) (by kernel_rfl) ?_; clear HS; intro w23 HS; replace HS := Bx.mk HS
          have HS : Bx (St w0 ([rowA encA 1 173 (.slice (some ⟨g6, 0, none⟩) 5 cp4) ([(some ⟨b2, 0 + 0, none⟩), (some ⟨b2, 0 + 1, none⟩), (some ⟨b2, 0 + 2, none⟩), (some ⟨b2, 0 + 3, none⟩), (some ⟨b2, 0 + 4, none⟩)]), rowA encS 1 9 (.slice (some ⟨g5, 0, none⟩) 5 cp3) ([x0, x1, x2, x3, x4]), boxA b2 5 38 (.agg #[.int .i64 (n7 : Int), .int .i64 0, .int .i64 0, .int .i64 0, .int .i64 0]), boxA b1 5 38 (.agg #[.int .i64 0, .int .i64 0, .int .i64 0, .int .i64 0, .int .i64 0])]) _) := HS
          refine wl_as HF rfl rfl rfl rfl rfl ?_;clear HF a;intro a HF
          refine wl_ne ?_
          refine wp_ret ?_
          refine ex_then_ret ?_
          refine ex_block_ret ?_
          refine ex_then_ret ?_
          refine ex_then_ret ?_
          refine ex_block_ret ?_
          refine ex_then_ret ?_
          refine bp_ret2 HF Tryz.results168 (HF.resBox rfl (HS.out.box 3 rfl) (by kernel_rfl)) (HF.res rfl) ?_
          refine .inr ⟨fun q hq hqs => ?_, rfl, HS.out.bel⟩
          have hqh := ptr_dash hq hqs (by simpa using cc1); have hqp := ptr_pieces hq hqh; rw [hqs] at hqp; have hqb := PtrD.ok_all hq hqh
          rw [hws] at hqp; simp only [List.cons.injEq, and_true] at hqp; obtain ⟨k0, k1, k2, k3, k4⟩ := hqp
          rw [k1, numG_num (by omega)] at hg8; cases hg8
      · skip
        refine ⟨_, rfl, ?_⟩; replace HS := Bx.mk (HS.out.later hb); clear hb HF; clear a; intro a HF
        refine wl_mv HF rfl rfl rfl rfl rfl ?_;clear HF a;intro a HF
        refine wl_y rfl HF rfl rfl (yl_extract rfl (HF.ev rfl) rfl) ?_;clear HF a;intro a HF
        refine wl_y rfl HF rfl rfl (yl_extract rfl (HF.ev rfl) rfl) ?_;clear HF a;intro a HF
        refine wl_as HF rfl rfl rfl rfl rfl ?_;clear HF a;intro a HF
        refine wl_as HF rfl rfl rfl rfl rfl ?_;clear HF a;intro a HF
        refine wl_ne ?_
        refine wp_seq ?_
        refine wp_sr ?_
        refine wl_mv HF rfl rfl rfl rfl rfl ?_;clear HF a;intro a HF
        refine wl_y rfl HF rfl rfl (yl_not rfl (HF.ev rfl)) ?_;clear HF a;intro a HF
        refine wl_ne ?_
        refine wc_true HF rfl ?_
        refine wp_sr ?_
        refine wl_y rfl HF rfl rfl (yl_build HF rfl (ps := []) rfl (cs := #[.int .i64 0, .int .i64 0, .int .i64 0, .int .i64 0, .int .i64 0]) (by kernel_rfl)) ?_;clear HF a;intro a HF
        refine wl_storeBox rfl HF rfl rfl (HF.ev rfl) (HF.ev rfl) HS.out 3 rfl (cells_lit [.int .i64 0, .int .i64 0, .int .i64 0, .int .i64 0, .int .i64 0] rfl rfl) (by kernel_rfl) ?_; clear HS; intro w24 HS; replace HS := Bx.mk HS
        have HS : Bx (St w0 ([rowA encA 1 173 (.slice (some ⟨g6, 0, none⟩) 5 cp4) ([(some ⟨b2, 0 + 0, none⟩), (some ⟨b2, 0 + 1, none⟩), (some ⟨b2, 0 + 2, none⟩), (some ⟨b2, 0 + 3, none⟩), (some ⟨b2, 0 + 4, none⟩)]), rowA encS 1 9 (.slice (some ⟨g5, 0, none⟩) 5 cp3) ([x0, x1, x2, x3, x4]), boxA b2 5 38 (.agg #[.int .i64 0, .int .i64 0, .int .i64 0, .int .i64 0, .int .i64 0]), boxA b1 5 38 (.agg #[.int .i64 0, .int .i64 0, .int .i64 0, .int .i64 0, .int .i64 0])]) _) := HS
        refine wl_as HF rfl rfl rfl rfl rfl ?_;clear HF a;intro a HF
        refine wl_ne ?_
        refine wp_ret ?_
        refine ex_then_ret ?_
        refine ex_block_ret ?_
        refine ex_then_ret ?_
        refine ex_then_ret ?_
        refine ex_block_ret ?_
        refine ex_then_ret ?_
        refine bp_ret2 HF Tryz.results168 (HF.resBox rfl (HS.out.box 3 rfl) (by kernel_rfl)) (HF.res rfl) ?_
        refine .inr ⟨fun q hq hqs => ?_, rfl, HS.out.bel⟩
        have hqh := ptr_dash hq hqs (by simpa using cc1); have hqp := ptr_pieces hq hqh; rw [hqs] at hqp; have hqb := PtrD.ok_all hq hqh
        rw [hws] at hqp; simp only [List.cons.injEq, and_true] at hqp; obtain ⟨k0, k1, k2, k3, k4⟩ := hqp
        rw [k0, numG_num (by omega)] at hg7; cases hg7

end Go.Proofs.YtoaopmkbfifhaaaGreatDoor

/- Trees and roots read: walked. -/
namespace Go.Proofs.YtoaopmkbfifhaaaGreatDoor
set_option linter.unusedVariables false
set_option linter.unusedSimpArgs false
set_option maxHeartbeats 1000000
set_option maxRecDepth 100000
open Go.RowKit

section
variable {P : Program} {o : Oper} {a : Act} {w : World} {e : TypeId}
theorem yl_sliceLH {t : TypeId} {x y z : Operand} (ho : o.op = .slice t x (some y) (some z) none) {g off n cap : Nat} (hx : a.eval x = .slice (some ⟨g, off, none⟩) n cap) {kk kl : IntKind} {m l : Int} (hy : a.eval y = .int kk m) (hz : a.eval z = .int kl l) {size : Nat} (hu : elemOf? P t = some (e, size)) {k j : Nat} (hm : m = (k : Int)) (hl : l = (j : Int)) (hk : k ≤ j) (hj : j ≤ cap) (hc : k < cap) : Yl P w o a (.slice (some ⟨g, off + k * size, none⟩) (j - k) (cap - k)) := by
  unfold elemOf? at hu
  split at hu
  · rename_i e' hu'
    split at hu
    · rename_i inf hq
      simp only [Option.some.injEq, Prod.mk.injEq] at hu
      obtain ⟨_, rfl⟩ := hu
      subst hm; subst hl
      have h2 : ((k : Int) ≤ (j : Int)) := by omega
      have h4 : ((j : Int) ≤ (cap : Int)) := by omega
      have h3 : ¬ cap = k := by omega
      unfold Yl execOp
      simp only [ho, hx, hy, hz, Option.map_some, Option.map_none, Instr.sliceAt, Instr.slice, Sem.run_bind, run_underlying hu' w, Result.andThen_ok]
      simp [Instr.slice, Instr.sliceBounds, Instr.sliceBound, asIntOf, go_sem, run_underlying hu' w, sizeOf, typeInfo, hq, h2, h3, h4, Addr.add]
      rw [if_pos hj]
      by_cases hz : k * inf.size = 0
      · rw [if_pos hz, if_pos hk, hz, Nat.add_zero]
      · rw [if_neg hz, if_pos hk]
    · cases hu
  · cases hu
end
theorem num_back {y : ByteArray} {n : Nat} (h : numG y = some n) : 0 ≤ (n : Int) ∧ (n : Int) ≤ 999999999 ∧ numB (n : Int) = y := by
  have h1 := numG_some h
  refine ⟨by omega, by omega, ?_⟩
  rw [numB_in (by omega) (by omega), Int.toNat_natCast, h1.2]
/-- What three fields tell. -/
structure IsTree (x y z : ByteArray) (t : TreeD) : Prop where
  ok : t.fRoot.ok = true
  p : ptrB t.fRoot = x
  d : 0 ≤ t.fDepth ∧ t.fDepth ≤ 999999999 ∧ numB t.fDepth = y
  m : 0 ≤ t.fMany ∧ t.fMany ≤ 999999999 ∧ numB t.fMany = z
theorem num_one {m n : Int} {y : ByteArray} (h : 0 ≤ m ∧ m ≤ 999999999 ∧ numB m = y) (k : 0 ≤ n ∧ n ≤ 999999999 ∧ numB n = y) : m = n := by
  have h1 := numG_num ⟨h.1, h.2.1⟩
  have h2 := numG_num ⟨k.1, k.2.1⟩
  rw [h.2.2] at h1
  rw [k.2.2, h1] at h2
  have := Option.some.inj h2
  omega
theorem IsTree.one {x y z : ByteArray} {t u : TreeD} (h : IsTree x y z t) (k : IsTree x y z u) : t = u := by
  have h1 := ptrB_inj h.ok k.ok (h.p.trans k.p.symm)
  have h2 := num_one h.d k.d
  have h3 := num_one h.m k.m
  cases t; cases u
  simp only at h1 h2 h3
  rw [h1, h2, h3]
theorem no_num {y : ByteArray} {n : Int} (h : 0 ≤ n ∧ n ≤ 999999999 ∧ numB n = y) (hg : numG y = none) : False := by
  have := numG_num ⟨h.1, h.2.1⟩
  rw [h.2.2, hg] at this
  cases this
theorem rec_size (y : ByteArray) (ys : List ByteArray) : (recB (y :: ys)).size = (decB y.size).size + 1 + y.size + (recB ys).size := by
  have h := congrArg List.length (recB_cons y ys)
  rw [← size_list, List.length_append, List.length_cons, List.length_append, ← size_list, ← size_list, ← size_list] at h
  omega
theorem rec_le {y : ByteArray} {ys : List ByteArray} {B : Nat} (h : y.size ≤ 100) (hb : (recB ys).size ≤ B) : (recB (y :: ys)).size ≤ B + 110 := by
  rw [rec_size]
  have := decB_9 (n := y.size) (by omega)
  omega
theorem RootD.all {x : RootD} (h : x.ok = true) : (1 ≤ x.fTxg ∧ x.fTxg ≤ 900) ∧ x.fMeta.fRoot.ok = true ∧ (0 ≤ x.fMeta.fDepth ∧ x.fMeta.fDepth ≤ 2) ∧ (1 ≤ x.fMeta.fMany ∧ x.fMeta.fMany ≤ 16) := by
  unfold RootD.ok at h
  cases h1 : inB x.fTxg 1 900 with
  | false => rw [h1] at h; cases h
  | true =>
    cases h2 : x.fMeta.fRoot.ok with
    | false => rw [h1, h2] at h; cases h
    | true =>
      cases h3 : inB x.fMeta.fDepth 0 2 with
      | false => rw [h1, h2, h3] at h; cases h
      | true =>
        rw [h1, h2, h3] at h
        have k1 := inB_true h1
        have k3 := inB_true h3
        have k4 := inB_true (show inB x.fMeta.fMany 1 16 = true from h)
        exact ⟨by omega, rfl, by omega, by omega⟩
theorem root_rec {x : RootD} (h : x.ok = true) : ∃ l : ByteArray, IsRec (rootB x) [⟨#[114, 111, 111, 116]⟩, numB x.fTxg, ptrB x.fMeta.fRoot, numB x.fMeta.fDepth, numB x.fMeta.fMany, l] := by
  rw [rootB_yes h]
  have e : signB ([(⟨#[114, 111, 111, 116]⟩ : ByteArray), numB x.fTxg] ++ treeB x.fMeta) = (fieldsPut [⟨#[114, 111, 111, 116]⟩, numB x.fTxg, ptrB x.fMeta.fRoot, numB x.fMeta.fDepth, numB x.fMeta.fMany, decB (sumOf (fieldsPut ([(⟨#[114, 111, 111, 116]⟩ : ByteArray), numB x.fTxg] ++ treeB x.fMeta)).1).toNat]).1 := rfl
  rw [e]
  have hs := sumOf_le (fieldsPut ([(⟨#[114, 111, 111, 116]⟩ : ByteArray), numB x.fTxg] ++ treeB x.fMeta)).1
  generalize sumOf (fieldsPut ([(⟨#[114, 111, 111, 116]⟩ : ByteArray), numB x.fTxg] ++ treeB x.fMeta)).1 = sm at hs
  have h1 := numB_le x.fTxg
  have h2 := ptrB_le x.fMeta.fRoot
  have h3 := numB_le x.fMeta.fDepth
  have h4 := numB_le x.fMeta.fMany
  have h5 : (decB sm.toNat).size ≤ 9 := decB_9 (by omega)
  refine ⟨decB sm.toNat, ?_⟩
  rw [fieldsPut_yes (by simp only [List.length_cons, List.length_nil]; omega) (Nat.le_trans (rec_le (y := ⟨#[114, 111, 111, 116]⟩) (by decide) (rec_le (by omega) (rec_le (by omega) (rec_le (by omega) (rec_le (by omega) (rec_le (by omega) (Nat.le_refl _))))))) (by rw [recB_nil]; decide))]
  exact ⟨rfl, by simp only [List.length_cons, List.length_nil]; omega⟩
theorem root_tree {x : RootD} (h : x.ok = true) : IsTree (ptrB x.fMeta.fRoot) (numB x.fMeta.fDepth) (numB x.fMeta.fMany) x.fMeta := by
  have := RootD.all h
  exact ⟨this.2.1, rfl, ⟨by omega, by omega, rfl⟩, ⟨by omega, by omega, rfl⟩⟩
theorem len6 {α : Type} {l : List α} (h : l.length = 6) : ∃ a b c d e f, l = [a, b, c, d, e, f] := by
  match l, h with
  | [a, b, c, d, e, f], _ => exact ⟨a, b, c, d, e, f, rfl⟩
theorem rootB_inj {x y : RootD} (hx : x.ok = true) (hy : y.ok = true) (h : rootB x = rootB y) : x = y := by
  obtain ⟨l, h1⟩ := root_rec hx
  obtain ⟨m, h2⟩ := root_rec hy
  rw [h] at h1
  have e := h1.one h2
  simp only [List.cons.injEq, and_true, true_and] at e
  obtain ⟨e1, e2, e3, e4, _⟩ := e
  have a1 := RootD.all hx
  have a2 := RootD.all hy
  have k1 : x.fTxg = y.fTxg := num_one (y := numB y.fTxg) ⟨by omega, by omega, e1⟩ ⟨by omega, by omega, rfl⟩
  have k2 : x.fMeta = y.fMeta := IsTree.one (by have := root_tree hx; rw [e2, e3, e4] at this; exact this) (root_tree hy)
  cases x; cases y
  simp only at k1 k2
  rw [k1, k2]

theorem treeOf_any (a0 : Option Addr) (c0 : Nat) (x y z : ByteArray) (w0 : World) (hT : TabP w0) (hM : MaxP w0) (hE : ErrP w0) (hx : x.size ≤ 4294967280) (hR : Rd encS 1 w0 a0 3 [x, y, z]) : Calls Tryz.prog 144 #[.slice a0 3 c0] w0 fun e w' => (∃ t : TreeD, IsTree x y z t ∧ e = .returned (.tuple #[.agg #[.int .i64 t.fRoot.fAt, .int .i64 t.fRoot.fBirth, .int .i64 t.fRoot.fSize, .int .i64 t.fRoot.fSum, .int .i64 t.fRoot.fLevel, .int .i64 t.fDepth, .int .i64 t.fMany], .bool true]) ∧ Below w0.heap.size w0 w') ∨ (∃ t : TreeD, (∀ u, IsTree x y z u → False) ∧ e = .returned (.tuple #[.agg #[.int .i64 t.fRoot.fAt, .int .i64 t.fRoot.fBirth, .int .i64 t.fRoot.fSize, .int .i64 t.fRoot.fSum, .int .i64 t.fRoot.fLevel, .int .i64 t.fDepth, .int .i64 t.fMany], .bool false]) ∧ Below w0.heap.size w0 w') := by
 have HT := Bx.mk hT; have HM := Bx.mk hM; have HE := Bx.mk hE; clear hT hM hE
 obtain ⟨g0, o0, r0⟩ := hR.opn; have R0 := Bx.mk r0; clear r0 hR
 have HS := Bx.mk (St.start w0)
 refine wc_enter Tryz.func144 rfl Tryz.ntmps144 [(0, .slice a0 3 c0)] ⟨rfl, trivial⟩ rfl ?_; intro a HF
 refine wp_sr ?_
 refine wl_alloc rfl HF rfl rfl rfl (Z := [.int .i64 0, .int .i64 0, .int .i64 0, .int .i64 0, .int .i64 0, .int .i64 0, .int .i64 0]) (by kernel_rfl) rfl HS.out ?_; clear HF HS a; intro a w1 b1 HF HS; replace HS := Bx.mk HS
 refine wl_as HF rfl rfl rfl rfl rfl ?_;clear HF a;intro a HF
 refine wl_ne ?_
 refine wp_sr ?_
 refine wl_mv HF rfl rfl rfl rfl rfl ?_;clear HF a;intro a HF
 refine wl_y rfl HF rfl rfl (yl_indexAddrR (e := 9) (i := 0) (size := 1) rfl (HF.ev rfl) (HF.ev rfl) (by kernel_rfl) rfl (by omega) (R0.out.ao 0 (by omega))) ?_;clear HF a;intro a HF
 refine wl_y rfl HF rfl rfl (yl_load (v := .string x) rfl (HF.ev rfl) (R0.out.elem1 HS.out (show ([x, y, z] : List _)[0]? = some _ from rfl) rfl) (by kernel_rfl)) ?_;clear HF a;intro a HF
 refine wl_call rfl HF rfl (enter_of Tryz.func168 (by kernel_rfl) rfl) (args := #[.string x]) rfl (ptrGet_any x _ (HT.out.below HS.out.bel) (HM.out.below HS.out.bel) (HE.out.below HS.out.bel) (by omega)) rfl rfl ?_
 rintro _ w2 (⟨p2, hpo2, hpt2, rfl, hb⟩ | ⟨hpn2, rfl, hb⟩)
 ·skip
  refine ⟨_, rfl, ?_⟩; replace HS := Bx.mk (HS.out.later hb); clear hb HF; clear a; intro a HF
  refine wl_mv HF rfl rfl rfl rfl rfl ?_;clear HF a;intro a HF
  refine wl_y rfl HF rfl rfl (yl_extract rfl (HF.ev rfl) rfl) ?_;clear HF a;intro a HF
  refine wl_y rfl HF rfl rfl (yl_extract rfl (HF.ev rfl) rfl) ?_;clear HF a;intro a HF
  refine wl_alloc rfl HF rfl rfl rfl (Z := [.int .i64 0, .int .i64 0, .int .i64 0, .int .i64 0, .int .i64 0]) (by kernel_rfl) rfl HS.out ?_; clear HF HS a; intro a w3 b3 HF HS; replace HS := Bx.mk HS
  refine wl_storeBox rfl HF rfl rfl (HF.ev rfl) (HF.ev rfl) HS.out 0 rfl (cells_lit [.int .i64 p2.fAt, .int .i64 p2.fBirth, .int .i64 p2.fSize, .int .i64 p2.fSum, .int .i64 p2.fLevel] rfl rfl) (by kernel_rfl) ?_; clear HS; intro w4 HS; replace HS := Bx.mk HS
  have HS : Bx (St w0 ([boxA b3 5 38 (.agg #[.int .i64 p2.fAt, .int .i64 p2.fBirth, .int .i64 p2.fSize, .int .i64 p2.fSum, .int .i64 p2.fLevel]), boxA b1 7 40 (.agg #[.int .i64 0, .int .i64 0, .int .i64 0, .int .i64 0, .int .i64 0, .int .i64 0, .int .i64 0])]) _) := HS
  refine wl_as HF rfl rfl rfl rfl rfl ?_;clear HF a;intro a HF
  refine wl_ne ?_
  refine wp_sr ?_
  refine wl_mv HF rfl rfl rfl rfl rfl ?_;clear HF a;intro a HF
  refine wl_y rfl HF rfl rfl (yl_indexAddrR (e := 9) (i := 1) (size := 1) rfl (HF.ev rfl) (HF.ev rfl) (by kernel_rfl) rfl (by omega) (R0.out.ao 1 (by omega))) ?_;clear HF a;intro a HF
  refine wl_y rfl HF rfl rfl (yl_load (v := .string y) rfl (HF.ev rfl) (R0.out.elem1 HS.out (show ([x, y, z] : List _)[1]? = some _ from rfl) rfl) (by kernel_rfl)) ?_;clear HF a;intro a HF
  refine wl_call rfl HF rfl (enter_of Tryz.func143 (by kernel_rfl) rfl) (args := #[.string y]) rfl (implNumGet_any y _ (HT.out.below HS.out.bel) (HE.out.below HS.out.bel)) rfl rfl ?_
  rintro _ w5 (⟨n4, hg4, rfl, hb⟩ | ⟨hg4, rfl, hb⟩)
  ·skip
   refine ⟨_, rfl, ?_⟩; replace HS := Bx.mk (HS.out.later hb); clear hb HF; clear a; intro a HF
   refine wl_mv HF rfl rfl rfl rfl rfl ?_;clear HF a;intro a HF
   refine wl_y rfl HF rfl rfl (yl_extract rfl (HF.ev rfl) rfl) ?_;clear HF a;intro a HF
   refine wl_y rfl HF rfl rfl (yl_extract rfl (HF.ev rfl) rfl) ?_;clear HF a;intro a HF
   refine wl_as HF rfl rfl rfl rfl rfl ?_;clear HF a;intro a HF
   refine wl_as HF rfl rfl rfl rfl rfl ?_;clear HF a;intro a HF
   refine wl_ne ?_
   refine wp_sr ?_
   refine wl_mv HF rfl rfl rfl rfl rfl ?_;clear HF a;intro a HF
   refine wl_y rfl HF rfl rfl (yl_indexAddrR (e := 9) (i := 2) (size := 1) rfl (HF.ev rfl) (HF.ev rfl) (by kernel_rfl) rfl (by omega) (R0.out.ao 2 (by omega))) ?_;clear HF a;intro a HF
   refine wl_y rfl HF rfl rfl (yl_load (v := .string z) rfl (HF.ev rfl) (R0.out.elem1 HS.out (show ([x, y, z] : List _)[2]? = some _ from rfl) rfl) (by kernel_rfl)) ?_;clear HF a;intro a HF
   refine wl_call rfl HF rfl (enter_of Tryz.func143 (by kernel_rfl) rfl) (args := #[.string z]) rfl (implNumGet_any z _ (HT.out.below HS.out.bel) (HE.out.below HS.out.bel)) rfl rfl ?_
   rintro _ w6 (⟨n5, hg5, rfl, hb⟩ | ⟨hg5, rfl, hb⟩)
   ·skip
    refine ⟨_, rfl, ?_⟩; replace HS := Bx.mk (HS.out.later hb); clear hb HF; clear a; intro a HF
    refine wl_mv HF rfl rfl rfl rfl rfl ?_;clear HF a;intro a HF
    refine wl_y rfl HF rfl rfl (yl_extract rfl (HF.ev rfl) rfl) ?_;clear HF a;intro a HF
    refine wl_y rfl HF rfl rfl (yl_extract rfl (HF.ev rfl) rfl) ?_;clear HF a;intro a HF
    refine wl_as HF rfl rfl rfl rfl rfl ?_;clear HF a;intro a HF
    refine wl_as HF rfl rfl rfl rfl rfl ?_;clear HF a;intro a HF
    refine wl_ne ?_
    refine wp_sr ?_
    refine wl_y rfl HF rfl rfl (yl_loadR (cs := [.int .i64 p2.fAt, .int .i64 p2.fBirth, .int .i64 p2.fSize, .int .i64 p2.fSum, .int .i64 p2.fLevel]) rfl (HF.ev rfl) ((HS.out.box 0 rfl).sub 0 5) (by kernel_rfl)) ?_;clear HF a;intro a HF
    refine wl_mv HF rfl rfl rfl rfl rfl ?_;clear HF a;intro a HF
    refine wl_mv HF rfl rfl rfl rfl rfl ?_;clear HF a;intro a HF
    refine wl_y rfl HF rfl rfl (yl_build HF rfl (ps := [(0, .agg #[.int .i64 p2.fAt, .int .i64 p2.fBirth, .int .i64 p2.fSize, .int .i64 p2.fSum, .int .i64 p2.fLevel]), (1, .int .i64 (n4 : Int)), (2, .int .i64 (n5 : Int))]) rfl (cs := #[.int .i64 p2.fAt, .int .i64 p2.fBirth, .int .i64 p2.fSize, .int .i64 p2.fSum, .int .i64 p2.fLevel, .int .i64 (n4 : Int), .int .i64 (n5 : Int)]) (by kernel_rfl)) ?_;clear HF a;intro a HF
    refine wl_mv HF rfl rfl rfl rfl rfl ?_;clear HF a;intro a HF
    refine wl_mv HF rfl rfl rfl rfl rfl ?_;clear HF a;intro a HF
    refine wl_yg HF rfl rfl rfl rfl rfl (yl_move rfl (HF.ev rfl)) ?_;clear HF a;intro a HF
    refine wl_y rfl HF rfl rfl (yl_pick_t rfl (HF.ev rfl) (HF.ev rfl)) ?_;clear HF a;intro a HF
    refine wl_mv HF rfl rfl rfl rfl rfl ?_;clear HF a;intro a HF
    refine wl_yg HF rfl rfl rfl rfl rfl (yl_move rfl (HF.ev rfl)) ?_;clear HF a;intro a HF
    refine wl_y rfl HF rfl rfl (yl_pick_t rfl (HF.ev rfl) (HF.ev rfl)) ?_;clear HF a;intro a HF
    refine wl_storeBox rfl HF rfl rfl (HF.ev rfl) (HF.ev rfl) HS.out 1 rfl (cells_lit [.int .i64 p2.fAt, .int .i64 p2.fBirth, .int .i64 p2.fSize, .int .i64 p2.fSum, .int .i64 p2.fLevel, .int .i64 (n4 : Int), .int .i64 (n5 : Int)] rfl rfl) (by kernel_rfl) ?_; clear HS; intro w7 HS; replace HS := Bx.mk HS
    have HS : Bx (St w0 ([boxA b3 5 38 (.agg #[.int .i64 p2.fAt, .int .i64 p2.fBirth, .int .i64 p2.fSize, .int .i64 p2.fSum, .int .i64 p2.fLevel]), boxA b1 7 40 (.agg #[.int .i64 p2.fAt, .int .i64 p2.fBirth, .int .i64 p2.fSize, .int .i64 p2.fSum, .int .i64 p2.fLevel, .int .i64 (n4 : Int), .int .i64 (n5 : Int)])]) _) := HS
    refine wl_as HF rfl rfl rfl rfl rfl ?_;clear HF a;intro a HF
    refine wl_ne ?_
    refine wp_ret ?_
    refine bp_ret2 HF Tryz.results144 (HF.resBox rfl (HS.out.box 1 rfl) (by kernel_rfl)) (HF.res rfl) ?_
    exact .inl ⟨⟨p2, (n4 : Int), (n5 : Int)⟩, ⟨hpo2, hpt2, num_back hg4, num_back hg5⟩, rfl, HS.out.bel⟩
   ·skip
    refine ⟨_, rfl, ?_⟩; replace HS := Bx.mk (HS.out.later hb); clear hb HF; clear a; intro a HF
    refine wl_mv HF rfl rfl rfl rfl rfl ?_;clear HF a;intro a HF
    refine wl_y rfl HF rfl rfl (yl_extract rfl (HF.ev rfl) rfl) ?_;clear HF a;intro a HF
    refine wl_y rfl HF rfl rfl (yl_extract rfl (HF.ev rfl) rfl) ?_;clear HF a;intro a HF
    refine wl_as HF rfl rfl rfl rfl rfl ?_;clear HF a;intro a HF
    refine wl_as HF rfl rfl rfl rfl rfl ?_;clear HF a;intro a HF
    refine wl_ne ?_
    refine wp_sr ?_
    refine wl_y rfl HF rfl rfl (yl_loadR (cs := [.int .i64 p2.fAt, .int .i64 p2.fBirth, .int .i64 p2.fSize, .int .i64 p2.fSum, .int .i64 p2.fLevel]) rfl (HF.ev rfl) ((HS.out.box 0 rfl).sub 0 5) (by kernel_rfl)) ?_;clear HF a;intro a HF
    refine wl_mv HF rfl rfl rfl rfl rfl ?_;clear HF a;intro a HF
    refine wl_mv HF rfl rfl rfl rfl rfl ?_;clear HF a;intro a HF
    refine wl_y rfl HF rfl rfl (yl_build HF rfl (ps := [(0, .agg #[.int .i64 p2.fAt, .int .i64 p2.fBirth, .int .i64 p2.fSize, .int .i64 p2.fSum, .int .i64 p2.fLevel]), (1, .int .i64 (n4 : Int)), (2, .int .i64 0)]) rfl (cs := #[.int .i64 p2.fAt, .int .i64 p2.fBirth, .int .i64 p2.fSize, .int .i64 p2.fSum, .int .i64 p2.fLevel, .int .i64 (n4 : Int), .int .i64 0]) (by kernel_rfl)) ?_;clear HF a;intro a HF
    refine wl_mv HF rfl rfl rfl rfl rfl ?_;clear HF a;intro a HF
    refine wl_mv HF rfl rfl rfl rfl rfl ?_;clear HF a;intro a HF
    refine wl_yg HF rfl rfl rfl rfl rfl (yl_move rfl (HF.ev rfl)) ?_;clear HF a;intro a HF
    refine wl_y rfl HF rfl rfl (yl_pick_t rfl (HF.ev rfl) (HF.ev rfl)) ?_;clear HF a;intro a HF
    refine wl_mv HF rfl rfl rfl rfl rfl ?_;clear HF a;intro a HF
    refine wl_yg HF rfl rfl rfl rfl rfl (yl_move rfl (HF.ev rfl)) ?_;clear HF a;intro a HF
    refine wl_y rfl HF rfl rfl (yl_pick_t rfl (HF.ev rfl) (HF.ev rfl)) ?_;clear HF a;intro a HF
    refine wl_storeBox rfl HF rfl rfl (HF.ev rfl) (HF.ev rfl) HS.out 1 rfl (cells_lit [.int .i64 p2.fAt, .int .i64 p2.fBirth, .int .i64 p2.fSize, .int .i64 p2.fSum, .int .i64 p2.fLevel, .int .i64 (n4 : Int), .int .i64 0] rfl rfl) (by kernel_rfl) ?_; clear HS; intro w8 HS; replace HS := Bx.mk HS
    have HS : Bx (St w0 ([boxA b3 5 38 (.agg #[.int .i64 p2.fAt, .int .i64 p2.fBirth, .int .i64 p2.fSize, .int .i64 p2.fSum, .int .i64 p2.fLevel]), boxA b1 7 40 (.agg #[.int .i64 p2.fAt, .int .i64 p2.fBirth, .int .i64 p2.fSize, .int .i64 p2.fSum, .int .i64 p2.fLevel, .int .i64 (n4 : Int), .int .i64 0])]) _) := HS
    refine wl_as HF rfl rfl rfl rfl rfl ?_;clear HF a;intro a HF
    refine wl_ne ?_
    refine wp_ret ?_
    refine bp_ret2 HF Tryz.results144 (HF.resBox rfl (HS.out.box 1 rfl) (by kernel_rfl)) (HF.res rfl) ?_
    exact .inr ⟨⟨⟨p2.fAt, p2.fBirth, p2.fSize, p2.fSum, p2.fLevel⟩, (n4 : Int), 0⟩, fun u hu => no_num hu.m hg5, rfl, HS.out.bel⟩
  ·skip
   refine ⟨_, rfl, ?_⟩; replace HS := Bx.mk (HS.out.later hb); clear hb HF; clear a; intro a HF
   refine wl_mv HF rfl rfl rfl rfl rfl ?_;clear HF a;intro a HF
   refine wl_y rfl HF rfl rfl (yl_extract rfl (HF.ev rfl) rfl) ?_;clear HF a;intro a HF
   refine wl_y rfl HF rfl rfl (yl_extract rfl (HF.ev rfl) rfl) ?_;clear HF a;intro a HF
   refine wl_as HF rfl rfl rfl rfl rfl ?_;clear HF a;intro a HF
   refine wl_as HF rfl rfl rfl rfl rfl ?_;clear HF a;intro a HF
   refine wl_ne ?_
   refine wp_sr ?_
   refine wl_mv HF rfl rfl rfl rfl rfl ?_;clear HF a;intro a HF
   refine wl_y rfl HF rfl rfl (yl_indexAddrR (e := 9) (i := 2) (size := 1) rfl (HF.ev rfl) (HF.ev rfl) (by kernel_rfl) rfl (by omega) (R0.out.ao 2 (by omega))) ?_;clear HF a;intro a HF
   refine wl_y rfl HF rfl rfl (yl_load (v := .string z) rfl (HF.ev rfl) (R0.out.elem1 HS.out (show ([x, y, z] : List _)[2]? = some _ from rfl) rfl) (by kernel_rfl)) ?_;clear HF a;intro a HF
   refine wl_call rfl HF rfl (enter_of Tryz.func143 (by kernel_rfl) rfl) (args := #[.string z]) rfl (implNumGet_any z _ (HT.out.below HS.out.bel) (HE.out.below HS.out.bel)) rfl rfl ?_
   rintro _ w9 (⟨n6, hg6, rfl, hb⟩ | ⟨hg6, rfl, hb⟩)
   ·skip
    refine ⟨_, rfl, ?_⟩; replace HS := Bx.mk (HS.out.later hb); clear hb HF; clear a; intro a HF
    refine wl_mv HF rfl rfl rfl rfl rfl ?_;clear HF a;intro a HF
    refine wl_y rfl HF rfl rfl (yl_extract rfl (HF.ev rfl) rfl) ?_;clear HF a;intro a HF
    refine wl_y rfl HF rfl rfl (yl_extract rfl (HF.ev rfl) rfl) ?_;clear HF a;intro a HF
    refine wl_as HF rfl rfl rfl rfl rfl ?_;clear HF a;intro a HF
    refine wl_as HF rfl rfl rfl rfl rfl ?_;clear HF a;intro a HF
    refine wl_ne ?_
    refine wp_sr ?_
    refine wl_y rfl HF rfl rfl (yl_loadR (cs := [.int .i64 p2.fAt, .int .i64 p2.fBirth, .int .i64 p2.fSize, .int .i64 p2.fSum, .int .i64 p2.fLevel]) rfl (HF.ev rfl) ((HS.out.box 0 rfl).sub 0 5) (by kernel_rfl)) ?_;clear HF a;intro a HF
    refine wl_mv HF rfl rfl rfl rfl rfl ?_;clear HF a;intro a HF
    refine wl_mv HF rfl rfl rfl rfl rfl ?_;clear HF a;intro a HF
    refine wl_y rfl HF rfl rfl (yl_build HF rfl (ps := [(0, .agg #[.int .i64 p2.fAt, .int .i64 p2.fBirth, .int .i64 p2.fSize, .int .i64 p2.fSum, .int .i64 p2.fLevel]), (1, .int .i64 0), (2, .int .i64 (n6 : Int))]) rfl (cs := #[.int .i64 p2.fAt, .int .i64 p2.fBirth, .int .i64 p2.fSize, .int .i64 p2.fSum, .int .i64 p2.fLevel, .int .i64 0, .int .i64 (n6 : Int)]) (by kernel_rfl)) ?_;clear HF a;intro a HF
    refine wl_mv HF rfl rfl rfl rfl rfl ?_;clear HF a;intro a HF
    refine wl_mv HF rfl rfl rfl rfl rfl ?_;clear HF a;intro a HF
    refine wl_yg HF rfl rfl rfl rfl rfl (yl_move rfl (HF.ev rfl)) ?_;clear HF a;intro a HF
    refine wl_y rfl HF rfl rfl (yl_pick_t rfl (HF.ev rfl) (HF.ev rfl)) ?_;clear HF a;intro a HF
    refine wl_mv HF rfl rfl rfl rfl rfl ?_;clear HF a;intro a HF
    refine wl_skip HF rfl rfl rfl rfl rfl rfl ?_;clear HF a;intro a HF
    refine wl_y rfl HF rfl rfl (yl_pick_f rfl (HF.ev rfl) (HF.ev rfl)) ?_;clear HF a;intro a HF
    refine wl_storeBox rfl HF rfl rfl (HF.ev rfl) (HF.ev rfl) HS.out 1 rfl (cells_lit [.int .i64 p2.fAt, .int .i64 p2.fBirth, .int .i64 p2.fSize, .int .i64 p2.fSum, .int .i64 p2.fLevel, .int .i64 0, .int .i64 (n6 : Int)] rfl rfl) (by kernel_rfl) ?_; clear HS; intro w10 HS; replace HS := Bx.mk HS
    have HS : Bx (St w0 ([boxA b3 5 38 (.agg #[.int .i64 p2.fAt, .int .i64 p2.fBirth, .int .i64 p2.fSize, .int .i64 p2.fSum, .int .i64 p2.fLevel]), boxA b1 7 40 (.agg #[.int .i64 p2.fAt, .int .i64 p2.fBirth, .int .i64 p2.fSize, .int .i64 p2.fSum, .int .i64 p2.fLevel, .int .i64 0, .int .i64 (n6 : Int)])]) _) := HS
    refine wl_as HF rfl rfl rfl rfl rfl ?_;clear HF a;intro a HF
    refine wl_ne ?_
    refine wp_ret ?_
    refine bp_ret2 HF Tryz.results144 (HF.resBox rfl (HS.out.box 1 rfl) (by kernel_rfl)) (HF.res rfl) ?_
    exact .inr ⟨⟨⟨p2.fAt, p2.fBirth, p2.fSize, p2.fSum, p2.fLevel⟩, 0, (n6 : Int)⟩, fun u hu => no_num hu.d hg4, rfl, HS.out.bel⟩
   ·skip
    refine ⟨_, rfl, ?_⟩; replace HS := Bx.mk (HS.out.later hb); clear hb HF; clear a; intro a HF
    refine wl_mv HF rfl rfl rfl rfl rfl ?_;clear HF a;intro a HF
    refine wl_y rfl HF rfl rfl (yl_extract rfl (HF.ev rfl) rfl) ?_;clear HF a;intro a HF
    refine wl_y rfl HF rfl rfl (yl_extract rfl (HF.ev rfl) rfl) ?_;clear HF a;intro a HF
    refine wl_as HF rfl rfl rfl rfl rfl ?_;clear HF a;intro a HF
    refine wl_as HF rfl rfl rfl rfl rfl ?_;clear HF a;intro a HF
    refine wl_ne ?_
    refine wp_sr ?_
    refine wl_y rfl HF rfl rfl (yl_loadR (cs := [.int .i64 p2.fAt, .int .i64 p2.fBirth, .int .i64 p2.fSize, .int .i64 p2.fSum, .int .i64 p2.fLevel]) rfl (HF.ev rfl) ((HS.out.box 0 rfl).sub 0 5) (by kernel_rfl)) ?_;clear HF a;intro a HF
    refine wl_mv HF rfl rfl rfl rfl rfl ?_;clear HF a;intro a HF
    refine wl_mv HF rfl rfl rfl rfl rfl ?_;clear HF a;intro a HF
    refine wl_y rfl HF rfl rfl (yl_build HF rfl (ps := [(0, .agg #[.int .i64 p2.fAt, .int .i64 p2.fBirth, .int .i64 p2.fSize, .int .i64 p2.fSum, .int .i64 p2.fLevel]), (1, .int .i64 0), (2, .int .i64 0)]) rfl (cs := #[.int .i64 p2.fAt, .int .i64 p2.fBirth, .int .i64 p2.fSize, .int .i64 p2.fSum, .int .i64 p2.fLevel, .int .i64 0, .int .i64 0]) (by kernel_rfl)) ?_;clear HF a;intro a HF
    refine wl_mv HF rfl rfl rfl rfl rfl ?_;clear HF a;intro a HF
    refine wl_mv HF rfl rfl rfl rfl rfl ?_;clear HF a;intro a HF
    refine wl_yg HF rfl rfl rfl rfl rfl (yl_move rfl (HF.ev rfl)) ?_;clear HF a;intro a HF
    refine wl_y rfl HF rfl rfl (yl_pick_t rfl (HF.ev rfl) (HF.ev rfl)) ?_;clear HF a;intro a HF
    refine wl_mv HF rfl rfl rfl rfl rfl ?_;clear HF a;intro a HF
    refine wl_skip HF rfl rfl rfl rfl rfl rfl ?_;clear HF a;intro a HF
    refine wl_y rfl HF rfl rfl (yl_pick_f rfl (HF.ev rfl) (HF.ev rfl)) ?_;clear HF a;intro a HF
    refine wl_storeBox rfl HF rfl rfl (HF.ev rfl) (HF.ev rfl) HS.out 1 rfl (cells_lit [.int .i64 p2.fAt, .int .i64 p2.fBirth, .int .i64 p2.fSize, .int .i64 p2.fSum, .int .i64 p2.fLevel, .int .i64 0, .int .i64 0] rfl rfl) (by kernel_rfl) ?_; clear HS; intro w11 HS; replace HS := Bx.mk HS
    have HS : Bx (St w0 ([boxA b3 5 38 (.agg #[.int .i64 p2.fAt, .int .i64 p2.fBirth, .int .i64 p2.fSize, .int .i64 p2.fSum, .int .i64 p2.fLevel]), boxA b1 7 40 (.agg #[.int .i64 p2.fAt, .int .i64 p2.fBirth, .int .i64 p2.fSize, .int .i64 p2.fSum, .int .i64 p2.fLevel, .int .i64 0, .int .i64 0])]) _) := HS
    refine wl_as HF rfl rfl rfl rfl rfl ?_;clear HF a;intro a HF
    refine wl_ne ?_
    refine wp_ret ?_
    refine bp_ret2 HF Tryz.results144 (HF.resBox rfl (HS.out.box 1 rfl) (by kernel_rfl)) (HF.res rfl) ?_
    exact .inr ⟨⟨⟨p2.fAt, p2.fBirth, p2.fSize, p2.fSum, p2.fLevel⟩, 0, 0⟩, fun u hu => no_num hu.d hg4, rfl, HS.out.bel⟩
 ·skip
  refine ⟨_, rfl, ?_⟩; replace HS := Bx.mk (HS.out.later hb); clear hb HF; clear a; intro a HF
  refine wl_mv HF rfl rfl rfl rfl rfl ?_;clear HF a;intro a HF
  refine wl_y rfl HF rfl rfl (yl_extract rfl (HF.ev rfl) rfl) ?_;clear HF a;intro a HF
  refine wl_y rfl HF rfl rfl (yl_extract rfl (HF.ev rfl) rfl) ?_;clear HF a;intro a HF
  refine wl_alloc rfl HF rfl rfl rfl (Z := [.int .i64 0, .int .i64 0, .int .i64 0, .int .i64 0, .int .i64 0]) (by kernel_rfl) rfl HS.out ?_; clear HF HS a; intro a w12 b7 HF HS; replace HS := Bx.mk HS
  refine wl_storeBox rfl HF rfl rfl (HF.ev rfl) (HF.ev rfl) HS.out 0 rfl (cells_lit [.int .i64 0, .int .i64 0, .int .i64 0, .int .i64 0, .int .i64 0] rfl rfl) (by kernel_rfl) ?_; clear HS; intro w13 HS; replace HS := Bx.mk HS
  have HS : Bx (St w0 ([boxA b7 5 38 (.agg #[.int .i64 0, .int .i64 0, .int .i64 0, .int .i64 0, .int .i64 0]), boxA b1 7 40 (.agg #[.int .i64 0, .int .i64 0, .int .i64 0, .int .i64 0, .int .i64 0, .int .i64 0, .int .i64 0])]) _) := HS
  refine wl_as HF rfl rfl rfl rfl rfl ?_;clear HF a;intro a HF
  refine wl_ne ?_
  refine wp_sr ?_
  refine wl_mv HF rfl rfl rfl rfl rfl ?_;clear HF a;intro a HF
  refine wl_y rfl HF rfl rfl (yl_indexAddrR (e := 9) (i := 1) (size := 1) rfl (HF.ev rfl) (HF.ev rfl) (by kernel_rfl) rfl (by omega) (R0.out.ao 1 (by omega))) ?_;clear HF a;intro a HF
  refine wl_y rfl HF rfl rfl (yl_load (v := .string y) rfl (HF.ev rfl) (R0.out.elem1 HS.out (show ([x, y, z] : List _)[1]? = some _ from rfl) rfl) (by kernel_rfl)) ?_;clear HF a;intro a HF
  refine wl_call rfl HF rfl (enter_of Tryz.func143 (by kernel_rfl) rfl) (args := #[.string y]) rfl (implNumGet_any y _ (HT.out.below HS.out.bel) (HE.out.below HS.out.bel)) rfl rfl ?_
  rintro _ w14 (⟨n8, hg8, rfl, hb⟩ | ⟨hg8, rfl, hb⟩)
  ·skip
   refine ⟨_, rfl, ?_⟩; replace HS := Bx.mk (HS.out.later hb); clear hb HF; clear a; intro a HF
   refine wl_mv HF rfl rfl rfl rfl rfl ?_;clear HF a;intro a HF
   refine wl_y rfl HF rfl rfl (yl_extract rfl (HF.ev rfl) rfl) ?_;clear HF a;intro a HF
   refine wl_y rfl HF rfl rfl (yl_extract rfl (HF.ev rfl) rfl) ?_;clear HF a;intro a HF
   refine wl_as HF rfl rfl rfl rfl rfl ?_;clear HF a;intro a HF
   refine wl_as HF rfl rfl rfl rfl rfl ?_;clear HF a;intro a HF
   refine wl_ne ?_
   refine wp_sr ?_
   refine wl_mv HF rfl rfl rfl rfl rfl ?_;clear HF a;intro a HF
   refine wl_y rfl HF rfl rfl (yl_indexAddrR (e := 9) (i := 2) (size := 1) rfl (HF.ev rfl) (HF.ev rfl) (by kernel_rfl) rfl (by omega) (R0.out.ao 2 (by omega))) ?_;clear HF a;intro a HF
   refine wl_y rfl HF rfl rfl (yl_load (v := .string z) rfl (HF.ev rfl) (R0.out.elem1 HS.out (show ([x, y, z] : List _)[2]? = some _ from rfl) rfl) (by kernel_rfl)) ?_;clear HF a;intro a HF
   refine wl_call rfl HF rfl (enter_of Tryz.func143 (by kernel_rfl) rfl) (args := #[.string z]) rfl (implNumGet_any z _ (HT.out.below HS.out.bel) (HE.out.below HS.out.bel)) rfl rfl ?_
   rintro _ w15 (⟨n9, hg9, rfl, hb⟩ | ⟨hg9, rfl, hb⟩)
   ·skip
    refine ⟨_, rfl, ?_⟩; replace HS := Bx.mk (HS.out.later hb); clear hb HF; clear a; intro a HF
    refine wl_mv HF rfl rfl rfl rfl rfl ?_;clear HF a;intro a HF
    refine wl_y rfl HF rfl rfl (yl_extract rfl (HF.ev rfl) rfl) ?_;clear HF a;intro a HF
    refine wl_y rfl HF rfl rfl (yl_extract rfl (HF.ev rfl) rfl) ?_;clear HF a;intro a HF
    refine wl_as HF rfl rfl rfl rfl rfl ?_;clear HF a;intro a HF
    refine wl_as HF rfl rfl rfl rfl rfl ?_;clear HF a;intro a HF
    refine wl_ne ?_
    refine wp_sr ?_
    refine wl_y rfl HF rfl rfl (yl_loadR (cs := [.int .i64 0, .int .i64 0, .int .i64 0, .int .i64 0, .int .i64 0]) rfl (HF.ev rfl) ((HS.out.box 0 rfl).sub 0 5) (by kernel_rfl)) ?_;clear HF a;intro a HF
    refine wl_mv HF rfl rfl rfl rfl rfl ?_;clear HF a;intro a HF
    refine wl_mv HF rfl rfl rfl rfl rfl ?_;clear HF a;intro a HF
    refine wl_y rfl HF rfl rfl (yl_build HF rfl (ps := [(0, .agg #[.int .i64 0, .int .i64 0, .int .i64 0, .int .i64 0, .int .i64 0]), (1, .int .i64 (n8 : Int)), (2, .int .i64 (n9 : Int))]) rfl (cs := #[.int .i64 0, .int .i64 0, .int .i64 0, .int .i64 0, .int .i64 0, .int .i64 (n8 : Int), .int .i64 (n9 : Int)]) (by kernel_rfl)) ?_;clear HF a;intro a HF
    refine wl_mv HF rfl rfl rfl rfl rfl ?_;clear HF a;intro a HF
    refine wl_mv HF rfl rfl rfl rfl rfl ?_;clear HF a;intro a HF
    refine wl_skip HF rfl rfl rfl rfl rfl rfl ?_;clear HF a;intro a HF
    refine wl_y rfl HF rfl rfl (yl_pick_f rfl (HF.ev rfl) (HF.ev rfl)) ?_;clear HF a;intro a HF
    refine wl_mv HF rfl rfl rfl rfl rfl ?_;clear HF a;intro a HF
    refine wl_skip HF rfl rfl rfl rfl rfl rfl ?_;clear HF a;intro a HF
    refine wl_y rfl HF rfl rfl (yl_pick_f rfl (HF.ev rfl) (HF.ev rfl)) ?_;clear HF a;intro a HF
    refine wl_storeBox rfl HF rfl rfl (HF.ev rfl) (HF.ev rfl) HS.out 1 rfl (cells_lit [.int .i64 0, .int .i64 0, .int .i64 0, .int .i64 0, .int .i64 0, .int .i64 (n8 : Int), .int .i64 (n9 : Int)] rfl rfl) (by kernel_rfl) ?_; clear HS; intro w16 HS; replace HS := Bx.mk HS
    have HS : Bx (St w0 ([boxA b7 5 38 (.agg #[.int .i64 0, .int .i64 0, .int .i64 0, .int .i64 0, .int .i64 0]), boxA b1 7 40 (.agg #[.int .i64 0, .int .i64 0, .int .i64 0, .int .i64 0, .int .i64 0, .int .i64 (n8 : Int), .int .i64 (n9 : Int)])]) _) := HS
    refine wl_as HF rfl rfl rfl rfl rfl ?_;clear HF a;intro a HF
    refine wl_ne ?_
    refine wp_ret ?_
    refine bp_ret2 HF Tryz.results144 (HF.resBox rfl (HS.out.box 1 rfl) (by kernel_rfl)) (HF.res rfl) ?_
    exact .inr ⟨⟨⟨0, 0, 0, 0, 0⟩, (n8 : Int), (n9 : Int)⟩, fun u hu => hpn2 u.fRoot hu.ok hu.p, rfl, HS.out.bel⟩
   ·skip
    refine ⟨_, rfl, ?_⟩; replace HS := Bx.mk (HS.out.later hb); clear hb HF; clear a; intro a HF
    refine wl_mv HF rfl rfl rfl rfl rfl ?_;clear HF a;intro a HF
    refine wl_y rfl HF rfl rfl (yl_extract rfl (HF.ev rfl) rfl) ?_;clear HF a;intro a HF
    refine wl_y rfl HF rfl rfl (yl_extract rfl (HF.ev rfl) rfl) ?_;clear HF a;intro a HF
    refine wl_as HF rfl rfl rfl rfl rfl ?_;clear HF a;intro a HF
    refine wl_as HF rfl rfl rfl rfl rfl ?_;clear HF a;intro a HF
    refine wl_ne ?_
    refine wp_sr ?_
    refine wl_y rfl HF rfl rfl (yl_loadR (cs := [.int .i64 0, .int .i64 0, .int .i64 0, .int .i64 0, .int .i64 0]) rfl (HF.ev rfl) ((HS.out.box 0 rfl).sub 0 5) (by kernel_rfl)) ?_;clear HF a;intro a HF
    refine wl_mv HF rfl rfl rfl rfl rfl ?_;clear HF a;intro a HF
    refine wl_mv HF rfl rfl rfl rfl rfl ?_;clear HF a;intro a HF
    refine wl_y rfl HF rfl rfl (yl_build HF rfl (ps := [(0, .agg #[.int .i64 0, .int .i64 0, .int .i64 0, .int .i64 0, .int .i64 0]), (1, .int .i64 (n8 : Int)), (2, .int .i64 0)]) rfl (cs := #[.int .i64 0, .int .i64 0, .int .i64 0, .int .i64 0, .int .i64 0, .int .i64 (n8 : Int), .int .i64 0]) (by kernel_rfl)) ?_;clear HF a;intro a HF
    refine wl_mv HF rfl rfl rfl rfl rfl ?_;clear HF a;intro a HF
    refine wl_mv HF rfl rfl rfl rfl rfl ?_;clear HF a;intro a HF
    refine wl_skip HF rfl rfl rfl rfl rfl rfl ?_;clear HF a;intro a HF
    refine wl_y rfl HF rfl rfl (yl_pick_f rfl (HF.ev rfl) (HF.ev rfl)) ?_;clear HF a;intro a HF
    refine wl_mv HF rfl rfl rfl rfl rfl ?_;clear HF a;intro a HF
    refine wl_skip HF rfl rfl rfl rfl rfl rfl ?_;clear HF a;intro a HF
    refine wl_y rfl HF rfl rfl (yl_pick_f rfl (HF.ev rfl) (HF.ev rfl)) ?_;clear HF a;intro a HF
    refine wl_storeBox rfl HF rfl rfl (HF.ev rfl) (HF.ev rfl) HS.out 1 rfl (cells_lit [.int .i64 0, .int .i64 0, .int .i64 0, .int .i64 0, .int .i64 0, .int .i64 (n8 : Int), .int .i64 0] rfl rfl) (by kernel_rfl) ?_; clear HS; intro w17 HS; replace HS := Bx.mk HS
    have HS : Bx (St w0 ([boxA b7 5 38 (.agg #[.int .i64 0, .int .i64 0, .int .i64 0, .int .i64 0, .int .i64 0]), boxA b1 7 40 (.agg #[.int .i64 0, .int .i64 0, .int .i64 0, .int .i64 0, .int .i64 0, .int .i64 (n8 : Int), .int .i64 0])]) _) := HS
    refine wl_as HF rfl rfl rfl rfl rfl ?_;clear HF a;intro a HF
    refine wl_ne ?_
    refine wp_ret ?_
    refine bp_ret2 HF Tryz.results144 (HF.resBox rfl (HS.out.box 1 rfl) (by kernel_rfl)) (HF.res rfl) ?_
    exact .inr ⟨⟨⟨0, 0, 0, 0, 0⟩, (n8 : Int), 0⟩, fun u hu => hpn2 u.fRoot hu.ok hu.p, rfl, HS.out.bel⟩
  ·skip
   refine ⟨_, rfl, ?_⟩; replace HS := Bx.mk (HS.out.later hb); clear hb HF; clear a; intro a HF
   refine wl_mv HF rfl rfl rfl rfl rfl ?_;clear HF a;intro a HF
   refine wl_y rfl HF rfl rfl (yl_extract rfl (HF.ev rfl) rfl) ?_;clear HF a;intro a HF
   refine wl_y rfl HF rfl rfl (yl_extract rfl (HF.ev rfl) rfl) ?_;clear HF a;intro a HF
   refine wl_as HF rfl rfl rfl rfl rfl ?_;clear HF a;intro a HF
   refine wl_as HF rfl rfl rfl rfl rfl ?_;clear HF a;intro a HF
   refine wl_ne ?_
   refine wp_sr ?_
   refine wl_mv HF rfl rfl rfl rfl rfl ?_;clear HF a;intro a HF
   refine wl_y rfl HF rfl rfl (yl_indexAddrR (e := 9) (i := 2) (size := 1) rfl (HF.ev rfl) (HF.ev rfl) (by kernel_rfl) rfl (by omega) (R0.out.ao 2 (by omega))) ?_;clear HF a;intro a HF
   refine wl_y rfl HF rfl rfl (yl_load (v := .string z) rfl (HF.ev rfl) (R0.out.elem1 HS.out (show ([x, y, z] : List _)[2]? = some _ from rfl) rfl) (by kernel_rfl)) ?_;clear HF a;intro a HF
   refine wl_call rfl HF rfl (enter_of Tryz.func143 (by kernel_rfl) rfl) (args := #[.string z]) rfl (implNumGet_any z _ (HT.out.below HS.out.bel) (HE.out.below HS.out.bel)) rfl rfl ?_
   rintro _ w18 (⟨n10, hg10, rfl, hb⟩ | ⟨hg10, rfl, hb⟩)
   ·skip
    refine ⟨_, rfl, ?_⟩; replace HS := Bx.mk (HS.out.later hb); clear hb HF; clear a; intro a HF
    refine wl_mv HF rfl rfl rfl rfl rfl ?_;clear HF a;intro a HF
    refine wl_y rfl HF rfl rfl (yl_extract rfl (HF.ev rfl) rfl) ?_;clear HF a;intro a HF
    refine wl_y rfl HF rfl rfl (yl_extract rfl (HF.ev rfl) rfl) ?_;clear HF a;intro a HF
    refine wl_as HF rfl rfl rfl rfl rfl ?_;clear HF a;intro a HF
    refine wl_as HF rfl rfl rfl rfl rfl ?_;clear HF a;intro a HF
    refine wl_ne ?_
    refine wp_sr ?_
    refine wl_y rfl HF rfl rfl (yl_loadR (cs := [.int .i64 0, .int .i64 0, .int .i64 0, .int .i64 0, .int .i64 0]) rfl (HF.ev rfl) ((HS.out.box 0 rfl).sub 0 5) (by kernel_rfl)) ?_;clear HF a;intro a HF
    refine wl_mv HF rfl rfl rfl rfl rfl ?_;clear HF a;intro a HF
    refine wl_mv HF rfl rfl rfl rfl rfl ?_;clear HF a;intro a HF
    refine wl_y rfl HF rfl rfl (yl_build HF rfl (ps := [(0, .agg #[.int .i64 0, .int .i64 0, .int .i64 0, .int .i64 0, .int .i64 0]), (1, .int .i64 0), (2, .int .i64 (n10 : Int))]) rfl (cs := #[.int .i64 0, .int .i64 0, .int .i64 0, .int .i64 0, .int .i64 0, .int .i64 0, .int .i64 (n10 : Int)]) (by kernel_rfl)) ?_;clear HF a;intro a HF
    refine wl_mv HF rfl rfl rfl rfl rfl ?_;clear HF a;intro a HF
    refine wl_mv HF rfl rfl rfl rfl rfl ?_;clear HF a;intro a HF
    refine wl_skip HF rfl rfl rfl rfl rfl rfl ?_;clear HF a;intro a HF
    refine wl_y rfl HF rfl rfl (yl_pick_f rfl (HF.ev rfl) (HF.ev rfl)) ?_;clear HF a;intro a HF
    refine wl_mv HF rfl rfl rfl rfl rfl ?_;clear HF a;intro a HF
    refine wl_skip HF rfl rfl rfl rfl rfl rfl ?_;clear HF a;intro a HF
    refine wl_y rfl HF rfl rfl (yl_pick_f rfl (HF.ev rfl) (HF.ev rfl)) ?_;clear HF a;intro a HF
    refine wl_storeBox rfl HF rfl rfl (HF.ev rfl) (HF.ev rfl) HS.out 1 rfl (cells_lit [.int .i64 0, .int .i64 0, .int .i64 0, .int .i64 0, .int .i64 0, .int .i64 0, .int .i64 (n10 : Int)] rfl rfl) (by kernel_rfl) ?_; clear HS; intro w19 HS; replace HS := Bx.mk HS
    have HS : Bx (St w0 ([boxA b7 5 38 (.agg #[.int .i64 0, .int .i64 0, .int .i64 0, .int .i64 0, .int .i64 0]), boxA b1 7 40 (.agg #[.int .i64 0, .int .i64 0, .int .i64 0, .int .i64 0, .int .i64 0, .int .i64 0, .int .i64 (n10 : Int)])]) _) := HS
    refine wl_as HF rfl rfl rfl rfl rfl ?_;clear HF a;intro a HF
    refine wl_ne ?_
    refine wp_ret ?_
    refine bp_ret2 HF Tryz.results144 (HF.resBox rfl (HS.out.box 1 rfl) (by kernel_rfl)) (HF.res rfl) ?_
    exact .inr ⟨⟨⟨0, 0, 0, 0, 0⟩, 0, (n10 : Int)⟩, fun u hu => hpn2 u.fRoot hu.ok hu.p, rfl, HS.out.bel⟩
   ·skip
    refine ⟨_, rfl, ?_⟩; replace HS := Bx.mk (HS.out.later hb); clear hb HF; clear a; intro a HF
    refine wl_mv HF rfl rfl rfl rfl rfl ?_;clear HF a;intro a HF
    refine wl_y rfl HF rfl rfl (yl_extract rfl (HF.ev rfl) rfl) ?_;clear HF a;intro a HF
    refine wl_y rfl HF rfl rfl (yl_extract rfl (HF.ev rfl) rfl) ?_;clear HF a;intro a HF
    refine wl_as HF rfl rfl rfl rfl rfl ?_;clear HF a;intro a HF
    refine wl_as HF rfl rfl rfl rfl rfl ?_;clear HF a;intro a HF
    refine wl_ne ?_
    refine wp_sr ?_
    refine wl_y rfl HF rfl rfl (yl_loadR (cs := [.int .i64 0, .int .i64 0, .int .i64 0, .int .i64 0, .int .i64 0]) rfl (HF.ev rfl) ((HS.out.box 0 rfl).sub 0 5) (by kernel_rfl)) ?_;clear HF a;intro a HF
    refine wl_mv HF rfl rfl rfl rfl rfl ?_;clear HF a;intro a HF
    refine wl_mv HF rfl rfl rfl rfl rfl ?_;clear HF a;intro a HF
    refine wl_y rfl HF rfl rfl (yl_build HF rfl (ps := [(0, .agg #[.int .i64 0, .int .i64 0, .int .i64 0, .int .i64 0, .int .i64 0]), (1, .int .i64 0), (2, .int .i64 0)]) rfl (cs := #[.int .i64 0, .int .i64 0, .int .i64 0, .int .i64 0, .int .i64 0, .int .i64 0, .int .i64 0]) (by kernel_rfl)) ?_;clear HF a;intro a HF
    refine wl_mv HF rfl rfl rfl rfl rfl ?_;clear HF a;intro a HF
    refine wl_mv HF rfl rfl rfl rfl rfl ?_;clear HF a;intro a HF
    refine wl_skip HF rfl rfl rfl rfl rfl rfl ?_;clear HF a;intro a HF
    refine wl_y rfl HF rfl rfl (yl_pick_f rfl (HF.ev rfl) (HF.ev rfl)) ?_;clear HF a;intro a HF
    refine wl_mv HF rfl rfl rfl rfl rfl ?_;clear HF a;intro a HF
    refine wl_skip HF rfl rfl rfl rfl rfl rfl ?_;clear HF a;intro a HF
    refine wl_y rfl HF rfl rfl (yl_pick_f rfl (HF.ev rfl) (HF.ev rfl)) ?_;clear HF a;intro a HF
    refine wl_storeBox rfl HF rfl rfl (HF.ev rfl) (HF.ev rfl) HS.out 1 rfl (cells_lit [.int .i64 0, .int .i64 0, .int .i64 0, .int .i64 0, .int .i64 0, .int .i64 0, .int .i64 0] rfl rfl) (by kernel_rfl) ?_; clear HS; intro w20 HS; replace HS := Bx.mk HS
    have HS : Bx (St w0 ([boxA b7 5 38 (.agg #[.int .i64 0, .int .i64 0, .int .i64 0, .int .i64 0, .int .i64 0]), boxA b1 7 40 (.agg #[.int .i64 0, .int .i64 0, .int .i64 0, .int .i64 0, .int .i64 0, .int .i64 0, .int .i64 0])]) _) := HS
    refine wl_as HF rfl rfl rfl rfl rfl ?_;clear HF a;intro a HF
    refine wl_ne ?_
    refine wp_ret ?_
    refine bp_ret2 HF Tryz.results144 (HF.resBox rfl (HS.out.box 1 rfl) (by kernel_rfl)) (HF.res rfl) ?_
    exact .inr ⟨⟨⟨0, 0, 0, 0, 0⟩, 0, 0⟩, fun u hu => hpn2 u.fRoot hu.ok hu.p, rfl, HS.out.bel⟩

theorem rootGet_any (s : ByteArray) (w0 : World) (hT : TabP w0) (hM : MaxP w0) (hE : ErrP w0) (hs : s.size ≤ 9223372036854775807) : Calls Tryz.prog 101 #[.string s] w0 fun e w' => (∃ x : RootD, x.ok = true ∧ rootB x = s ∧ e = .returned (.tuple #[(rV x), .bool true]) ∧ Below w0.heap.size w0 w') ∨ ((∀ x : RootD, x.ok = true → rootB x = s → False) ∧ e = .returned (.tuple #[rZ, .bool false]) ∧ Below w0.heap.size w0 w') := by
  have HT := Bx.mk hT; have HM := Bx.mk hM; have HE := Bx.mk hE; clear hT hM hE
  have HS := Bx.mk (St.start w0)
  refine wc_enter Tryz.func101 rfl Tryz.ntmps101 [(0, .string s)] ⟨rfl, trivial⟩ rfl ?_; intro a HF
  refine wp_sr ?_
  refine wl_alloc rfl HF rfl rfl rfl (Z := [.int .i64 0, .int .i64 0, .int .i64 0, .int .i64 0, .int .i64 0, .int .i64 0, .int .i64 0, .int .i64 0]) (by kernel_rfl) rfl HS.out ?_; clear HF HS a; intro a w1 b1 HF HS; replace HS := Bx.mk HS
  refine wl_as HF rfl rfl rfl rfl rfl ?_;clear HF a;intro a HF
  refine wl_ne ?_
  refine wp_sr ?_
  refine wl_mv HF rfl rfl rfl rfl rfl ?_;clear HF a;intro a HF
  refine wl_call rfl HF rfl (enter_of Tryz.func142 (by kernel_rfl) rfl) (args := #[.string s]) rfl (fieldsGet_any s _ (HT.out.below HS.out.bel) (HM.out.below HS.out.bel) (HE.out.below HS.out.bel) (by omega)) rfl rfl ?_
  rintro _ w2 (⟨xs, hrec, hsz, ao, cp, rfl, hs1⟩ | ⟨hno, rfl, hb⟩)
  · skip
    refine ⟨_, rfl, ?_⟩; replace HS := Bx.mk (HS.out.add hs1); clear hs1 HF; clear a; intro a HF
    replace HS : Bx (St w0 ([rowA encS 1 9 (.slice ao xs.length cp) xs, boxA b1 8 42 (rZ)]) _) := ⟨HS.out⟩
    refine wl_mv HF rfl rfl rfl rfl rfl ?_;clear HF a;intro a HF
    refine wl_y rfl HF rfl rfl (yl_extract rfl (HF.ev rfl) rfl) ?_;clear HF a;intro a HF
    refine wl_y rfl HF rfl rfl (yl_extract rfl (HF.ev rfl) rfl) ?_;clear HF a;intro a HF
    refine wl_as HF rfl rfl rfl rfl rfl ?_;clear HF a;intro a HF
    refine wl_as HF rfl rfl rfl rfl rfl ?_;clear HF a;intro a HF
    refine wl_ne ?_
    refine wp_seq ?_
    refine wp_sr ?_
    refine wl_mv HF rfl rfl rfl rfl rfl ?_;clear HF a;intro a HF
    refine wl_y rfl HF rfl rfl (yl_not rfl (HF.ev rfl)) ?_;clear HF a;intro a HF
    refine wl_mv HF rfl rfl rfl rfl rfl ?_;clear HF a;intro a HF
    refine wl_yg HF rfl rfl rfl rfl rfl (yl_move rfl (HF.ev rfl)) ?_;clear HF a;intro a HF
    refine wl_yg HF rfl rfl rfl rfl rfl (yl_lenL (e := 9) (size := 1) rfl (HF.ev rfl) (by kernel_rfl)) ?_;clear HF a;intro a HF
    refine wl_yg HF rfl rfl rfl rfl rfl (yl_neqI rfl (HF.ev rfl) (HF.ev rfl)) ?_;clear HF a;intro a HF
    refine wl_y rfl HF rfl rfl (yl_pick_f rfl (HF.ev rfl) (HF.ev rfl)) ?_;clear HF a;intro a HF
    refine wl_ne ?_
    refine HF.cases 22 rfl (fun cc1 HF1 => ?_) (fun cc1 HF1 => ?_)
    · clear HF; have HF := HF1; clear HF1
      have dcc1 := bne_iff_ne.1 cc1
      refine wc_true HF rfl ?_
      refine wp_sr ?_
      refine wl_y rfl HF rfl rfl (yl_build HF rfl (ps := []) rfl (cs := #[.int .i64 0, .int .i64 0, .int .i64 0, .int .i64 0, .int .i64 0, .int .i64 0, .int .i64 0, .int .i64 0]) (by kernel_rfl)) ?_;clear HF a;intro a HF
      refine wl_storeBox rfl HF rfl rfl (HF.ev rfl) (HF.ev rfl) HS.out 1 rfl (cells_lit [.int .i64 0, .int .i64 0, .int .i64 0, .int .i64 0, .int .i64 0, .int .i64 0, .int .i64 0, .int .i64 0] rfl rfl) (by kernel_rfl) ?_; clear HS; intro w3 HS; replace HS := Bx.mk HS
      have HS : Bx (St w0 ([rowA encS 1 9 (.slice ao xs.length cp) xs, boxA b1 8 42 (rZ)]) _) := HS
      refine wl_as HF rfl rfl rfl rfl rfl ?_;clear HF a;intro a HF
      refine wl_ne ?_
      refine wp_ret ?_
      refine ex_then_ret ?_
      refine bp_ret2 HF Tryz.results101 (HF.resBox rfl (HS.out.box 1 rfl) (by kernel_rfl)) (HF.res rfl) ?_
      refine .inr ⟨fun x hx hxs => ?_, rfl, HS.out.bel⟩
      obtain ⟨l6, hl6⟩ := root_rec hx; rw [hxs] at hl6; have hx2 := rootB_le x; rw [hxs] at hx2; have hxa := RootD.all hx
      have hone := hrec.one hl6
      rw [hone] at dcc1; exact dcc1 rfl
    · clear HF; have HF := HF1; clear HF1
      have dcc1 := bne_eq_false_iff_eq.1 cc1
      refine wc_false HF rfl ?_
      refine wp_skip ?_
      refine ex_then ?_
      refine wp_seq ?_
      obtain ⟨y0, y1, y2, y3, y4, y5, rfl⟩ := len6 (l := xs) (by omega)
      replace HF : Fr 54 a [(0, .string s), (2, .pointer (some ⟨b1, 0, none⟩)), (3, .bool false), (12, .string s), (14, .slice ao 6 cp), (15, .bool true), (4, .slice ao 6 cp), (5, .bool true), (16, .bool true), (17, .bool false), (18, .bool false), (19, .slice ao 6 cp), (22, .bool false)] := HF.less _ ⟨rfl, rfl, rfl, rfl, rfl, rfl, rfl, rfl, rfl, rfl, rfl, rfl, rfl, trivial⟩
      replace HS : Bx (St w0 ([rowA encS 1 9 (.slice ao 6 cp) ([y0, y1, y2, y3, y4, y5]), boxA b1 8 42 (rZ)]) _) := ⟨HS.out⟩
      obtain ⟨g2, rfl, _, _, _, _⟩ := HS.out.rowOpen 0 rfl (Nat.succ_pos _)
      have hcap := HS.out.capLe 0 rfl
      have hy2 : y2.size ≤ 2048 := by have := recB_elem [y0, y1, y2, y3, y4, y5] (k := 2) (by simp only [List.length_cons, List.length_nil]; omega); rw [hrec.is] at this; have e : ([y0, y1, y2, y3, y4, y5] : List ByteArray).getD 2 ByteArray.empty = y2 := rfl; rw [e] at this; omega
      refine wp_region_lit ?_
      refine wl_mv HF rfl rfl rfl rfl rfl ?_;clear HF a;intro a HF
      refine wl_y rfl HF rfl rfl (yl_indexAddr (e := 9) (i := 1) (size := 1) rfl (HF.ev rfl) (HF.ev rfl) (by kernel_rfl) rfl (by omega)) ?_;clear HF a;intro a HF
      refine wl_y rfl HF rfl rfl (yl_load (v := .string y1) rfl (HF.ev rfl) (HS.out.elem1 encS_len 0 rfl (show ([y0, y1, y2, y3, y4, y5] : List _)[1]? = some _ from rfl) rfl) (by kernel_rfl)) ?_;clear HF a;intro a HF
      refine wl_call rfl HF rfl (enter_of Tryz.func143 (by kernel_rfl) rfl) (args := #[.string y1]) rfl (implNumGet_any y1 _ (HT.out.below HS.out.bel) (HE.out.below HS.out.bel)) rfl rfl ?_
      rintro _ w4 (⟨n3, hg3, rfl, hb⟩ | ⟨hg3, rfl, hb⟩)
      · skip
        refine ⟨_, rfl, ?_⟩; replace HS := Bx.mk (HS.out.later hb); clear hb HF; clear a; intro a HF
        refine wl_mv HF rfl rfl rfl rfl rfl ?_;clear HF a;intro a HF
        refine wl_y rfl HF rfl rfl (yl_extract rfl (HF.ev rfl) rfl) ?_;clear HF a;intro a HF
        refine wl_y rfl HF rfl rfl (yl_extract rfl (HF.ev rfl) rfl) ?_;clear HF a;intro a HF
        refine wl_as HF rfl rfl rfl rfl rfl ?_;clear HF a;intro a HF
        refine wl_as HF rfl rfl rfl rfl rfl ?_;clear HF a;intro a HF
        refine wl_ne ?_
        refine wp_sr ?_
        refine wl_mv HF rfl rfl rfl rfl rfl ?_;clear HF a;intro a HF
        refine wl_y rfl HF rfl rfl (yl_sliceLH (e := 9) (size := 1) (k := 2) (j := 5) rfl (HF.ev rfl) (HF.ev rfl) (HF.ev rfl) (by kernel_rfl) rfl rfl (by decide) (by omega) (by omega)) ?_;clear HF a;intro a HF
        refine wl_call rfl HF rfl (enter_of Tryz.func144 (by kernel_rfl) rfl) (args := #[.slice (some ⟨g2, 0 + 2 * 1, none⟩) (5 - 2) (cp - 2)]) rfl (treeOf_any _ _ y2 y3 y4 _ (HT.out.below HS.out.bel) (HM.out.below HS.out.bel) (HE.out.below HS.out.bel) (by omega) (((St.rdN HS.out encS_len 0 rfl).drop (k := 2) (by simp)).take (k := 3) (by simp))) rfl rfl ?_
        rintro _ w5 (⟨t, htr, rfl, hb⟩ | ⟨t, htn, rfl, hb⟩)
        · skip
          refine ⟨_, rfl, ?_⟩; replace HS := Bx.mk (HS.out.later hb); clear hb HF; clear a; intro a HF
          refine wl_mv HF rfl rfl rfl rfl rfl ?_;clear HF a;intro a HF
          refine wl_y rfl HF rfl rfl (yl_extract rfl (HF.ev rfl) rfl) ?_;clear HF a;intro a HF
          refine wl_y rfl HF rfl rfl (yl_extract rfl (HF.ev rfl) rfl) ?_;clear HF a;intro a HF
          refine wl_alloc rfl HF rfl rfl rfl (Z := [.int .i64 0, .int .i64 0, .int .i64 0, .int .i64 0, .int .i64 0, .int .i64 0, .int .i64 0]) (by kernel_rfl) rfl HS.out ?_; clear HF HS a; intro a w6 b4 HF HS; replace HS := Bx.mk HS
          refine wl_storeBox rfl HF rfl rfl (HF.ev rfl) (HF.ev rfl) HS.out 0 rfl (cells_lit [.int .i64 t.fRoot.fAt, .int .i64 t.fRoot.fBirth, .int .i64 t.fRoot.fSize, .int .i64 t.fRoot.fSum, .int .i64 t.fRoot.fLevel, .int .i64 t.fDepth, .int .i64 t.fMany] rfl rfl) (by kernel_rfl) ?_; clear HS; intro w7 HS; replace HS := Bx.mk HS
          have HS : Bx (St w0 ([boxA b4 7 40 (.agg #[.int .i64 t.fRoot.fAt, .int .i64 t.fRoot.fBirth, .int .i64 t.fRoot.fSize, .int .i64 t.fRoot.fSum, .int .i64 t.fRoot.fLevel, .int .i64 t.fDepth, .int .i64 t.fMany]), rowA encS 1 9 (.slice (some ⟨g2, 0, none⟩) 6 cp) ([y0, y1, y2, y3, y4, y5]), boxA b1 8 42 (rZ)]) _) := HS
          refine wl_as HF rfl rfl rfl rfl rfl ?_;clear HF a;intro a HF
          refine wl_ne ?_
          refine wp_sr ?_
          refine wl_mv HF rfl rfl rfl rfl rfl ?_;clear HF a;intro a HF
          refine wl_y rfl HF rfl rfl (yl_loadR (cs := [.int .i64 t.fRoot.fAt, .int .i64 t.fRoot.fBirth, .int .i64 t.fRoot.fSize, .int .i64 t.fRoot.fSum, .int .i64 t.fRoot.fLevel, .int .i64 t.fDepth, .int .i64 t.fMany]) rfl (HF.ev rfl) ((HS.out.box 0 rfl).sub 0 7) (by kernel_rfl)) ?_;clear HF a;intro a HF
          refine wl_y rfl HF rfl rfl (yl_build HF rfl (ps := [(0, .int .i64 (n3 : Int)), (1, .agg #[.int .i64 t.fRoot.fAt, .int .i64 t.fRoot.fBirth, .int .i64 t.fRoot.fSize, .int .i64 t.fRoot.fSum, .int .i64 t.fRoot.fLevel, .int .i64 t.fDepth, .int .i64 t.fMany])]) rfl (cs := #[.int .i64 (n3 : Int), .int .i64 t.fRoot.fAt, .int .i64 t.fRoot.fBirth, .int .i64 t.fRoot.fSize, .int .i64 t.fRoot.fSum, .int .i64 t.fRoot.fLevel, .int .i64 t.fDepth, .int .i64 t.fMany]) (by kernel_rfl)) ?_;clear HF a;intro a HF
          refine wl_alloc rfl HF rfl rfl rfl (Z := [.int .i64 0, .int .i64 0, .int .i64 0, .int .i64 0, .int .i64 0, .int .i64 0, .int .i64 0, .int .i64 0]) (by kernel_rfl) rfl HS.out ?_; clear HF HS a; intro a w8 b5 HF HS; replace HS := Bx.mk HS
          refine wl_storeBox rfl HF rfl rfl (HF.ev rfl) (HF.ev rfl) HS.out 0 rfl (cells_lit [.int .i64 (n3 : Int), .int .i64 t.fRoot.fAt, .int .i64 t.fRoot.fBirth, .int .i64 t.fRoot.fSize, .int .i64 t.fRoot.fSum, .int .i64 t.fRoot.fLevel, .int .i64 t.fDepth, .int .i64 t.fMany] rfl rfl) (by kernel_rfl) ?_; clear HS; intro w9 HS; replace HS := Bx.mk HS
          have HS : Bx (St w0 ([boxA b5 8 42 (.agg #[.int .i64 (n3 : Int), .int .i64 t.fRoot.fAt, .int .i64 t.fRoot.fBirth, .int .i64 t.fRoot.fSize, .int .i64 t.fRoot.fSum, .int .i64 t.fRoot.fLevel, .int .i64 t.fDepth, .int .i64 t.fMany]), boxA b4 7 40 (.agg #[.int .i64 t.fRoot.fAt, .int .i64 t.fRoot.fBirth, .int .i64 t.fRoot.fSize, .int .i64 t.fRoot.fSum, .int .i64 t.fRoot.fLevel, .int .i64 t.fDepth, .int .i64 t.fMany]), rowA encS 1 9 (.slice (some ⟨g2, 0, none⟩) 6 cp) ([y0, y1, y2, y3, y4, y5]), boxA b1 8 42 (rZ)]) _) := HS
          refine wl_ne ?_
          refine wp_seq ?_
          refine wp_sr ?_
          refine wl_mv HF rfl rfl rfl rfl rfl ?_;clear HF a;intro a HF
          refine wl_y rfl HF rfl rfl (yl_not rfl (HF.ev rfl)) ?_;clear HF a;intro a HF
          refine wl_mv HF rfl rfl rfl rfl rfl ?_;clear HF a;intro a HF
          refine wl_yg HF rfl rfl rfl rfl rfl (yl_move rfl (HF.ev rfl)) ?_;clear HF a;intro a HF
          refine wl_yg HF rfl rfl rfl rfl rfl (yl_not rfl (HF.ev rfl)) ?_;clear HF a;intro a HF
          refine wl_y rfl HF rfl rfl (yl_pick_f rfl (HF.ev rfl) (HF.ev rfl)) ?_;clear HF a;intro a HF
          refine wl_mv HF rfl rfl rfl rfl rfl ?_;clear HF a;intro a HF
          refine wl_yg HF rfl rfl rfl rfl rfl (yl_loadR (cs := [.int .i64 (n3 : Int), .int .i64 t.fRoot.fAt, .int .i64 t.fRoot.fBirth, .int .i64 t.fRoot.fSize, .int .i64 t.fRoot.fSum, .int .i64 t.fRoot.fLevel, .int .i64 t.fDepth, .int .i64 t.fMany]) rfl (HF.ev rfl) ((HS.out.box 0 rfl).sub 0 8) (by kernel_rfl)) ?_;clear HF a;intro a HF
          refine wl_callBg HF rfl rfl rfl rfl (enter_of Tryz.func38 (by kernel_rfl) rfl) (args := #[.agg #[.int .i64 (n3 : Int), .int .i64 t.fRoot.fAt, .int .i64 t.fRoot.fBirth, .int .i64 t.fRoot.fSize, .int .i64 t.fRoot.fSum, .int .i64 t.fRoot.fLevel, .int .i64 t.fDepth, .int .i64 t.fMany]]) rfl (v := .string (rootB (⟨(n3 : Int), t⟩ : RootD))) (implRootPut_any (⟨(n3 : Int), t⟩ : RootD) _ (HT.out.below HS.out.bel)) rfl rfl HS.out ?_; clear HF HS a; intro w10 a HS HF; replace HS := Bx.mk HS
          refine wl_yg HF rfl rfl rfl rfl rfl (yl_move rfl (HF.ev rfl)) ?_;clear HF a;intro a HF
          refine wl_yg HF rfl rfl rfl rfl rfl (yl_neqS rfl (HF.ev rfl) (HF.ev rfl)) ?_;clear HF a;intro a HF
          refine wl_y rfl HF rfl rfl (yl_pick_f rfl (HF.ev rfl) (HF.ev rfl)) ?_;clear HF a;intro a HF
          refine wl_ne ?_
          refine HF.cases 51 rfl (fun cc2 HF1 => ?_) (fun cc2 HF1 => ?_)
          · clear HF; have HF := HF1; clear HF1
            refine wc_true HF rfl ?_
            refine wp_sr ?_
            refine wl_y rfl HF rfl rfl (yl_build HF rfl (ps := []) rfl (cs := #[.int .i64 0, .int .i64 0, .int .i64 0, .int .i64 0, .int .i64 0, .int .i64 0, .int .i64 0, .int .i64 0]) (by kernel_rfl)) ?_;clear HF a;intro a HF
            refine wl_storeBox rfl HF rfl rfl (HF.ev rfl) (HF.ev rfl) HS.out 3 rfl (cells_lit [.int .i64 0, .int .i64 0, .int .i64 0, .int .i64 0, .int .i64 0, .int .i64 0, .int .i64 0, .int .i64 0] rfl rfl) (by kernel_rfl) ?_; clear HS; intro w11 HS; replace HS := Bx.mk HS
            have HS : Bx (St w0 ([boxA b5 8 42 (.agg #[.int .i64 (n3 : Int), .int .i64 t.fRoot.fAt, .int .i64 t.fRoot.fBirth, .int .i64 t.fRoot.fSize, .int .i64 t.fRoot.fSum, .int .i64 t.fRoot.fLevel, .int .i64 t.fDepth, .int .i64 t.fMany]), boxA b4 7 40 (.agg #[.int .i64 t.fRoot.fAt, .int .i64 t.fRoot.fBirth, .int .i64 t.fRoot.fSize, .int .i64 t.fRoot.fSum, .int .i64 t.fRoot.fLevel, .int .i64 t.fDepth, .int .i64 t.fMany]), rowA encS 1 9 (.slice (some ⟨g2, 0, none⟩) 6 cp) ([y0, y1, y2, y3, y4, y5]), boxA b1 8 42 (rZ)]) _) := HS
            refine wl_as HF rfl rfl rfl rfl rfl ?_;clear HF a;intro a HF
            refine wl_ne ?_
            refine wp_ret ?_
            refine ex_then_ret ?_
            refine bp_ret2 HF Tryz.results101 (HF.resBox rfl (HS.out.box 3 rfl) (by kernel_rfl)) (HF.res rfl) ?_
            refine .inr ⟨fun x hx hxs => ?_, rfl, HS.out.bel⟩
            obtain ⟨l6, hl6⟩ := root_rec hx; rw [hxs] at hl6; have hx2 := rootB_le x; rw [hxs] at hx2; have hxa := RootD.all hx
            have hone := hrec.one hl6
            simp only [List.cons.injEq, and_true] at hone; obtain ⟨_, z1, z2, z3, z4, _⟩ := hone
            have hxt := root_tree hx; rw [← z2, ← z3, ← z4] at hxt
            have e1 : (n3 : Int) = x.fTxg := num_one (num_back hg3) ⟨by omega, by omega, z1.symm⟩; have e2 := htr.one hxt
            have e3 : (⟨(n3 : Int), t⟩ : RootD) = x := by rw [e1, e2]
            rw [e3, hxs] at cc2; simp at cc2
          · clear HF; have HF := HF1; clear HF1
            refine wc_false HF rfl ?_
            refine wp_skip ?_
            refine ex_then ?_
            refine wp_sr ?_
            refine wl_y rfl HF rfl rfl (yl_loadR (cs := [.int .i64 (n3 : Int), .int .i64 t.fRoot.fAt, .int .i64 t.fRoot.fBirth, .int .i64 t.fRoot.fSize, .int .i64 t.fRoot.fSum, .int .i64 t.fRoot.fLevel, .int .i64 t.fDepth, .int .i64 t.fMany]) rfl (HF.ev rfl) ((HS.out.box 0 rfl).sub 0 8) (by kernel_rfl)) ?_;clear HF a;intro a HF
            refine wl_storeBox rfl HF rfl rfl (HF.ev rfl) (HF.ev rfl) HS.out 3 rfl (cells_lit [.int .i64 (n3 : Int), .int .i64 t.fRoot.fAt, .int .i64 t.fRoot.fBirth, .int .i64 t.fRoot.fSize, .int .i64 t.fRoot.fSum, .int .i64 t.fRoot.fLevel, .int .i64 t.fDepth, .int .i64 t.fMany] rfl rfl) (by kernel_rfl) ?_; clear HS; intro w12 HS; replace HS := Bx.mk HS
            have HS : Bx (St w0 ([boxA b5 8 42 (.agg #[.int .i64 (n3 : Int), .int .i64 t.fRoot.fAt, .int .i64 t.fRoot.fBirth, .int .i64 t.fRoot.fSize, .int .i64 t.fRoot.fSum, .int .i64 t.fRoot.fLevel, .int .i64 t.fDepth, .int .i64 t.fMany]), boxA b4 7 40 (.agg #[.int .i64 t.fRoot.fAt, .int .i64 t.fRoot.fBirth, .int .i64 t.fRoot.fSize, .int .i64 t.fRoot.fSum, .int .i64 t.fRoot.fLevel, .int .i64 t.fDepth, .int .i64 t.fMany]), rowA encS 1 9 (.slice (some ⟨g2, 0, none⟩) 6 cp) ([y0, y1, y2, y3, y4, y5]), boxA b1 8 42 (.agg #[.int .i64 (n3 : Int), .int .i64 t.fRoot.fAt, .int .i64 t.fRoot.fBirth, .int .i64 t.fRoot.fSize, .int .i64 t.fRoot.fSum, .int .i64 t.fRoot.fLevel, .int .i64 t.fDepth, .int .i64 t.fMany])]) _) := HS
            refine wl_as HF rfl rfl rfl rfl rfl ?_;clear HF a;intro a HF
            refine wl_ne ?_
            refine wp_ret ?_
            refine bp_ret2 HF Tryz.results101 (HF.resBox rfl (HS.out.box 3 rfl) (by kernel_rfl)) (HF.res rfl) ?_
            have hrt : rootB (⟨(n3 : Int), t⟩ : RootD) = s := bytes_toList (by simpa using cc2)
            have hro : (⟨(n3 : Int), t⟩ : RootD).ok = true := by
                cases ho : (⟨(n3 : Int), t⟩ : RootD).ok with
                | true => rfl
                | false =>
                  rw [rootB_no ho] at hrt
                  have := hrec.is
                  rw [← hrt] at this
                  exact absurd (by rw [this]; rfl) (recB_ne y0 [y1, y2, y3, y4, y5])
            exact .inl ⟨_, hro, hrt, rfl, HS.out.bel⟩
        · skip
          refine ⟨_, rfl, ?_⟩; replace HS := Bx.mk (HS.out.later hb); clear hb HF; clear a; intro a HF
          refine wl_mv HF rfl rfl rfl rfl rfl ?_;clear HF a;intro a HF
          refine wl_y rfl HF rfl rfl (yl_extract rfl (HF.ev rfl) rfl) ?_;clear HF a;intro a HF
          refine wl_y rfl HF rfl rfl (yl_extract rfl (HF.ev rfl) rfl) ?_;clear HF a;intro a HF
          refine wl_alloc rfl HF rfl rfl rfl (Z := [.int .i64 0, .int .i64 0, .int .i64 0, .int .i64 0, .int .i64 0, .int .i64 0, .int .i64 0]) (by kernel_rfl) rfl HS.out ?_; clear HF HS a; intro a w13 b6 HF HS; replace HS := Bx.mk HS
          refine wl_storeBox rfl HF rfl rfl (HF.ev rfl) (HF.ev rfl) HS.out 0 rfl (cells_lit [.int .i64 t.fRoot.fAt, .int .i64 t.fRoot.fBirth, .int .i64 t.fRoot.fSize, .int .i64 t.fRoot.fSum, .int .i64 t.fRoot.fLevel, .int .i64 t.fDepth, .int .i64 t.fMany] rfl rfl) (by kernel_rfl) ?_; clear HS; intro w14 HS; replace HS := Bx.mk HS
          have HS : Bx (St w0 ([boxA b6 7 40 (.agg #[.int .i64 t.fRoot.fAt, .int .i64 t.fRoot.fBirth, .int .i64 t.fRoot.fSize, .int .i64 t.fRoot.fSum, .int .i64 t.fRoot.fLevel, .int .i64 t.fDepth, .int .i64 t.fMany]), rowA encS 1 9 (.slice (some ⟨g2, 0, none⟩) 6 cp) ([y0, y1, y2, y3, y4, y5]), boxA b1 8 42 (rZ)]) _) := HS
          refine wl_as HF rfl rfl rfl rfl rfl ?_;clear HF a;intro a HF
          refine wl_ne ?_
          refine wp_sr ?_
          refine wl_mv HF rfl rfl rfl rfl rfl ?_;clear HF a;intro a HF
          refine wl_y rfl HF rfl rfl (yl_loadR (cs := [.int .i64 t.fRoot.fAt, .int .i64 t.fRoot.fBirth, .int .i64 t.fRoot.fSize, .int .i64 t.fRoot.fSum, .int .i64 t.fRoot.fLevel, .int .i64 t.fDepth, .int .i64 t.fMany]) rfl (HF.ev rfl) ((HS.out.box 0 rfl).sub 0 7) (by kernel_rfl)) ?_;clear HF a;intro a HF
          refine wl_y rfl HF rfl rfl (yl_build HF rfl (ps := [(0, .int .i64 (n3 : Int)), (1, .agg #[.int .i64 t.fRoot.fAt, .int .i64 t.fRoot.fBirth, .int .i64 t.fRoot.fSize, .int .i64 t.fRoot.fSum, .int .i64 t.fRoot.fLevel, .int .i64 t.fDepth, .int .i64 t.fMany])]) rfl (cs := #[.int .i64 (n3 : Int), .int .i64 t.fRoot.fAt, .int .i64 t.fRoot.fBirth, .int .i64 t.fRoot.fSize, .int .i64 t.fRoot.fSum, .int .i64 t.fRoot.fLevel, .int .i64 t.fDepth, .int .i64 t.fMany]) (by kernel_rfl)) ?_;clear HF a;intro a HF
          refine wl_alloc rfl HF rfl rfl rfl (Z := [.int .i64 0, .int .i64 0, .int .i64 0, .int .i64 0, .int .i64 0, .int .i64 0, .int .i64 0, .int .i64 0]) (by kernel_rfl) rfl HS.out ?_; clear HF HS a; intro a w15 b7 HF HS; replace HS := Bx.mk HS
          refine wl_storeBox rfl HF rfl rfl (HF.ev rfl) (HF.ev rfl) HS.out 0 rfl (cells_lit [.int .i64 (n3 : Int), .int .i64 t.fRoot.fAt, .int .i64 t.fRoot.fBirth, .int .i64 t.fRoot.fSize, .int .i64 t.fRoot.fSum, .int .i64 t.fRoot.fLevel, .int .i64 t.fDepth, .int .i64 t.fMany] rfl rfl) (by kernel_rfl) ?_; clear HS; intro w16 HS; replace HS := Bx.mk HS
          have HS : Bx (St w0 ([boxA b7 8 42 (.agg #[.int .i64 (n3 : Int), .int .i64 t.fRoot.fAt, .int .i64 t.fRoot.fBirth, .int .i64 t.fRoot.fSize, .int .i64 t.fRoot.fSum, .int .i64 t.fRoot.fLevel, .int .i64 t.fDepth, .int .i64 t.fMany]), boxA b6 7 40 (.agg #[.int .i64 t.fRoot.fAt, .int .i64 t.fRoot.fBirth, .int .i64 t.fRoot.fSize, .int .i64 t.fRoot.fSum, .int .i64 t.fRoot.fLevel, .int .i64 t.fDepth, .int .i64 t.fMany]), rowA encS 1 9 (.slice (some ⟨g2, 0, none⟩) 6 cp) ([y0, y1, y2, y3, y4, y5]), boxA b1 8 42 (rZ)]) _) := HS
          refine wl_ne ?_
          refine wp_seq ?_
          refine wp_sr ?_
          refine wl_mv HF rfl rfl rfl rfl rfl ?_;clear HF a;intro a HF
          refine wl_y rfl HF rfl rfl (yl_not rfl (HF.ev rfl)) ?_;clear HF a;intro a HF
          refine wl_mv HF rfl rfl rfl rfl rfl ?_;clear HF a;intro a HF
          refine wl_yg HF rfl rfl rfl rfl rfl (yl_move rfl (HF.ev rfl)) ?_;clear HF a;intro a HF
          refine wl_yg HF rfl rfl rfl rfl rfl (yl_not rfl (HF.ev rfl)) ?_;clear HF a;intro a HF
          refine wl_y rfl HF rfl rfl (yl_pick_f rfl (HF.ev rfl) (HF.ev rfl)) ?_;clear HF a;intro a HF
          refine wl_mv HF rfl rfl rfl rfl rfl ?_;clear HF a;intro a HF
          refine wl_skip HF rfl rfl rfl rfl rfl rfl ?_;clear HF a;intro a HF
          refine wl_skip HF rfl rfl rfl rfl rfl rfl ?_;clear HF a;intro a HF
          refine wl_skip HF rfl rfl rfl rfl rfl rfl ?_;clear HF a;intro a HF
          refine wl_skip HF rfl rfl rfl rfl rfl rfl ?_;clear HF a;intro a HF
          refine wl_y rfl HF rfl rfl (yl_pick_t rfl (HF.ev rfl) (HF.ev rfl)) ?_;clear HF a;intro a HF
          refine wl_ne ?_
          refine wc_true HF rfl ?_
          refine wp_sr ?_
          refine wl_y rfl HF rfl rfl (yl_build HF rfl (ps := []) rfl (cs := #[.int .i64 0, .int .i64 0, .int .i64 0, .int .i64 0, .int .i64 0, .int .i64 0, .int .i64 0, .int .i64 0]) (by kernel_rfl)) ?_;clear HF a;intro a HF
          refine wl_storeBox rfl HF rfl rfl (HF.ev rfl) (HF.ev rfl) HS.out 3 rfl (cells_lit [.int .i64 0, .int .i64 0, .int .i64 0, .int .i64 0, .int .i64 0, .int .i64 0, .int .i64 0, .int .i64 0] rfl rfl) (by kernel_rfl) ?_; clear HS; intro w17 HS; replace HS := Bx.mk HS
          have HS : Bx (St w0 ([boxA b7 8 42 (.agg #[.int .i64 (n3 : Int), .int .i64 t.fRoot.fAt, .int .i64 t.fRoot.fBirth, .int .i64 t.fRoot.fSize, .int .i64 t.fRoot.fSum, .int .i64 t.fRoot.fLevel, .int .i64 t.fDepth, .int .i64 t.fMany]), boxA b6 7 40 (.agg #[.int .i64 t.fRoot.fAt, .int .i64 t.fRoot.fBirth, .int .i64 t.fRoot.fSize, .int .i64 t.fRoot.fSum, .int .i64 t.fRoot.fLevel, .int .i64 t.fDepth, .int .i64 t.fMany]), rowA encS 1 9 (.slice (some ⟨g2, 0, none⟩) 6 cp) ([y0, y1, y2, y3, y4, y5]), boxA b1 8 42 (rZ)]) _) := HS
          refine wl_as HF rfl rfl rfl rfl rfl ?_;clear HF a;intro a HF
          refine wl_ne ?_
          refine wp_ret ?_
          refine ex_then_ret ?_
          refine bp_ret2 HF Tryz.results101 (HF.resBox rfl (HS.out.box 3 rfl) (by kernel_rfl)) (HF.res rfl) ?_
          refine .inr ⟨fun x hx hxs => ?_, rfl, HS.out.bel⟩
          obtain ⟨l6, hl6⟩ := root_rec hx; rw [hxs] at hl6; have hx2 := rootB_le x; rw [hxs] at hx2; have hxa := RootD.all hx
          have hone := hrec.one hl6
          simp only [List.cons.injEq, and_true] at hone; obtain ⟨_, z1, z2, z3, z4, _⟩ := hone
          have hxt := root_tree hx; rw [← z2, ← z3, ← z4] at hxt
          exact htn _ hxt
      · skip
        refine ⟨_, rfl, ?_⟩; replace HS := Bx.mk (HS.out.later hb); clear hb HF; clear a; intro a HF
        refine wl_mv HF rfl rfl rfl rfl rfl ?_;clear HF a;intro a HF
        refine wl_y rfl HF rfl rfl (yl_extract rfl (HF.ev rfl) rfl) ?_;clear HF a;intro a HF
        refine wl_y rfl HF rfl rfl (yl_extract rfl (HF.ev rfl) rfl) ?_;clear HF a;intro a HF
        refine wl_as HF rfl rfl rfl rfl rfl ?_;clear HF a;intro a HF
        refine wl_as HF rfl rfl rfl rfl rfl ?_;clear HF a;intro a HF
        refine wl_ne ?_
        refine wp_sr ?_
        refine wl_mv HF rfl rfl rfl rfl rfl ?_;clear HF a;intro a HF
        refine wl_y rfl HF rfl rfl (yl_sliceLH (e := 9) (size := 1) (k := 2) (j := 5) rfl (HF.ev rfl) (HF.ev rfl) (HF.ev rfl) (by kernel_rfl) rfl rfl (by decide) (by omega) (by omega)) ?_;clear HF a;intro a HF
        refine wl_call rfl HF rfl (enter_of Tryz.func144 (by kernel_rfl) rfl) (args := #[.slice (some ⟨g2, 0 + 2 * 1, none⟩) (5 - 2) (cp - 2)]) rfl (treeOf_any _ _ y2 y3 y4 _ (HT.out.below HS.out.bel) (HM.out.below HS.out.bel) (HE.out.below HS.out.bel) (by omega) (((St.rdN HS.out encS_len 0 rfl).drop (k := 2) (by simp)).take (k := 3) (by simp))) rfl rfl ?_
        rintro _ w18 (⟨t, htr, rfl, hb⟩ | ⟨t, htn, rfl, hb⟩)
        · skip
          refine ⟨_, rfl, ?_⟩; replace HS := Bx.mk (HS.out.later hb); clear hb HF; clear a; intro a HF
          refine wl_mv HF rfl rfl rfl rfl rfl ?_;clear HF a;intro a HF
          refine wl_y rfl HF rfl rfl (yl_extract rfl (HF.ev rfl) rfl) ?_;clear HF a;intro a HF
          refine wl_y rfl HF rfl rfl (yl_extract rfl (HF.ev rfl) rfl) ?_;clear HF a;intro a HF
          refine wl_alloc rfl HF rfl rfl rfl (Z := [.int .i64 0, .int .i64 0, .int .i64 0, .int .i64 0, .int .i64 0, .int .i64 0, .int .i64 0]) (by kernel_rfl) rfl HS.out ?_; clear HF HS a; intro a w19 b8 HF HS; replace HS := Bx.mk HS
          refine wl_storeBox rfl HF rfl rfl (HF.ev rfl) (HF.ev rfl) HS.out 0 rfl (cells_lit [.int .i64 t.fRoot.fAt, .int .i64 t.fRoot.fBirth, .int .i64 t.fRoot.fSize, .int .i64 t.fRoot.fSum, .int .i64 t.fRoot.fLevel, .int .i64 t.fDepth, .int .i64 t.fMany] rfl rfl) (by kernel_rfl) ?_; clear HS; intro w20 HS; replace HS := Bx.mk HS
          have HS : Bx (St w0 ([boxA b8 7 40 (.agg #[.int .i64 t.fRoot.fAt, .int .i64 t.fRoot.fBirth, .int .i64 t.fRoot.fSize, .int .i64 t.fRoot.fSum, .int .i64 t.fRoot.fLevel, .int .i64 t.fDepth, .int .i64 t.fMany]), rowA encS 1 9 (.slice (some ⟨g2, 0, none⟩) 6 cp) ([y0, y1, y2, y3, y4, y5]), boxA b1 8 42 (rZ)]) _) := HS
          refine wl_as HF rfl rfl rfl rfl rfl ?_;clear HF a;intro a HF
          refine wl_ne ?_
          refine wp_sr ?_
          refine wl_mv HF rfl rfl rfl rfl rfl ?_;clear HF a;intro a HF
          refine wl_y rfl HF rfl rfl (yl_loadR (cs := [.int .i64 t.fRoot.fAt, .int .i64 t.fRoot.fBirth, .int .i64 t.fRoot.fSize, .int .i64 t.fRoot.fSum, .int .i64 t.fRoot.fLevel, .int .i64 t.fDepth, .int .i64 t.fMany]) rfl (HF.ev rfl) ((HS.out.box 0 rfl).sub 0 7) (by kernel_rfl)) ?_;clear HF a;intro a HF
          refine wl_y rfl HF rfl rfl (yl_build HF rfl (ps := [(0, .int .i64 0), (1, .agg #[.int .i64 t.fRoot.fAt, .int .i64 t.fRoot.fBirth, .int .i64 t.fRoot.fSize, .int .i64 t.fRoot.fSum, .int .i64 t.fRoot.fLevel, .int .i64 t.fDepth, .int .i64 t.fMany])]) rfl (cs := #[.int .i64 0, .int .i64 t.fRoot.fAt, .int .i64 t.fRoot.fBirth, .int .i64 t.fRoot.fSize, .int .i64 t.fRoot.fSum, .int .i64 t.fRoot.fLevel, .int .i64 t.fDepth, .int .i64 t.fMany]) (by kernel_rfl)) ?_;clear HF a;intro a HF
          refine wl_alloc rfl HF rfl rfl rfl (Z := [.int .i64 0, .int .i64 0, .int .i64 0, .int .i64 0, .int .i64 0, .int .i64 0, .int .i64 0, .int .i64 0]) (by kernel_rfl) rfl HS.out ?_; clear HF HS a; intro a w21 b9 HF HS; replace HS := Bx.mk HS
          refine wl_storeBox rfl HF rfl rfl (HF.ev rfl) (HF.ev rfl) HS.out 0 rfl (cells_lit [.int .i64 0, .int .i64 t.fRoot.fAt, .int .i64 t.fRoot.fBirth, .int .i64 t.fRoot.fSize, .int .i64 t.fRoot.fSum, .int .i64 t.fRoot.fLevel, .int .i64 t.fDepth, .int .i64 t.fMany] rfl rfl) (by kernel_rfl) ?_; clear HS; intro w22 HS; replace HS := Bx.mk HS
          have HS : Bx (St w0 ([boxA b9 8 42 (.agg #[.int .i64 0, .int .i64 t.fRoot.fAt, .int .i64 t.fRoot.fBirth, .int .i64 t.fRoot.fSize, .int .i64 t.fRoot.fSum, .int .i64 t.fRoot.fLevel, .int .i64 t.fDepth, .int .i64 t.fMany]), boxA b8 7 40 (.agg #[.int .i64 t.fRoot.fAt, .int .i64 t.fRoot.fBirth, .int .i64 t.fRoot.fSize, .int .i64 t.fRoot.fSum, .int .i64 t.fRoot.fLevel, .int .i64 t.fDepth, .int .i64 t.fMany]), rowA encS 1 9 (.slice (some ⟨g2, 0, none⟩) 6 cp) ([y0, y1, y2, y3, y4, y5]), boxA b1 8 42 (rZ)]) _) := HS
          refine wl_ne ?_
          refine wp_seq ?_
          refine wp_sr ?_
          refine wl_mv HF rfl rfl rfl rfl rfl ?_;clear HF a;intro a HF
          refine wl_y rfl HF rfl rfl (yl_not rfl (HF.ev rfl)) ?_;clear HF a;intro a HF
          refine wl_mv HF rfl rfl rfl rfl rfl ?_;clear HF a;intro a HF
          refine wl_skip HF rfl rfl rfl rfl rfl rfl ?_;clear HF a;intro a HF
          refine wl_skip HF rfl rfl rfl rfl rfl rfl ?_;clear HF a;intro a HF
          refine wl_y rfl HF rfl rfl (yl_pick_t rfl (HF.ev rfl) (HF.ev rfl)) ?_;clear HF a;intro a HF
          refine wl_mv HF rfl rfl rfl rfl rfl ?_;clear HF a;intro a HF
          refine wl_skip HF rfl rfl rfl rfl rfl rfl ?_;clear HF a;intro a HF
          refine wl_skip HF rfl rfl rfl rfl rfl rfl ?_;clear HF a;intro a HF
          refine wl_skip HF rfl rfl rfl rfl rfl rfl ?_;clear HF a;intro a HF
          refine wl_skip HF rfl rfl rfl rfl rfl rfl ?_;clear HF a;intro a HF
          refine wl_y rfl HF rfl rfl (yl_pick_t rfl (HF.ev rfl) (HF.ev rfl)) ?_;clear HF a;intro a HF
          refine wl_ne ?_
          refine wc_true HF rfl ?_
          refine wp_sr ?_
          refine wl_y rfl HF rfl rfl (yl_build HF rfl (ps := []) rfl (cs := #[.int .i64 0, .int .i64 0, .int .i64 0, .int .i64 0, .int .i64 0, .int .i64 0, .int .i64 0, .int .i64 0]) (by kernel_rfl)) ?_;clear HF a;intro a HF
          refine wl_storeBox rfl HF rfl rfl (HF.ev rfl) (HF.ev rfl) HS.out 3 rfl (cells_lit [.int .i64 0, .int .i64 0, .int .i64 0, .int .i64 0, .int .i64 0, .int .i64 0, .int .i64 0, .int .i64 0] rfl rfl) (by kernel_rfl) ?_; clear HS; intro w23 HS; replace HS := Bx.mk HS
          have HS : Bx (St w0 ([boxA b9 8 42 (.agg #[.int .i64 0, .int .i64 t.fRoot.fAt, .int .i64 t.fRoot.fBirth, .int .i64 t.fRoot.fSize, .int .i64 t.fRoot.fSum, .int .i64 t.fRoot.fLevel, .int .i64 t.fDepth, .int .i64 t.fMany]), boxA b8 7 40 (.agg #[.int .i64 t.fRoot.fAt, .int .i64 t.fRoot.fBirth, .int .i64 t.fRoot.fSize, .int .i64 t.fRoot.fSum, .int .i64 t.fRoot.fLevel, .int .i64 t.fDepth, .int .i64 t.fMany]), rowA encS 1 9 (.slice (some ⟨g2, 0, none⟩) 6 cp) ([y0, y1, y2, y3, y4, y5]), boxA b1 8 42 (rZ)]) _) := HS
          refine wl_as HF rfl rfl rfl rfl rfl ?_;clear HF a;intro a HF
          refine wl_ne ?_
          refine wp_ret ?_
          refine ex_then_ret ?_
          refine bp_ret2 HF Tryz.results101 (HF.resBox rfl (HS.out.box 3 rfl) (by kernel_rfl)) (HF.res rfl) ?_
          refine .inr ⟨fun x hx hxs => ?_, rfl, HS.out.bel⟩
          obtain ⟨l6, hl6⟩ := root_rec hx; rw [hxs] at hl6; have hx2 := rootB_le x; rw [hxs] at hx2; have hxa := RootD.all hx
          have hone := hrec.one hl6
          simp only [List.cons.injEq, and_true] at hone; obtain ⟨_, z1, z2, z3, z4, _⟩ := hone
          exact no_num (n := x.fTxg) ⟨by omega, by omega, z1.symm⟩ hg3
        · skip
          refine ⟨_, rfl, ?_⟩; replace HS := Bx.mk (HS.out.later hb); clear hb HF; clear a; intro a HF
          refine wl_mv HF rfl rfl rfl rfl rfl ?_;clear HF a;intro a HF
          refine wl_y rfl HF rfl rfl (yl_extract rfl (HF.ev rfl) rfl) ?_;clear HF a;intro a HF
          refine wl_y rfl HF rfl rfl (yl_extract rfl (HF.ev rfl) rfl) ?_;clear HF a;intro a HF
          refine wl_alloc rfl HF rfl rfl rfl (Z := [.int .i64 0, .int .i64 0, .int .i64 0, .int .i64 0, .int .i64 0, .int .i64 0, .int .i64 0]) (by kernel_rfl) rfl HS.out ?_; clear HF HS a; intro a w24 b10 HF HS; replace HS := Bx.mk HS
          refine wl_storeBox rfl HF rfl rfl (HF.ev rfl) (HF.ev rfl) HS.out 0 rfl (cells_lit [.int .i64 t.fRoot.fAt, .int .i64 t.fRoot.fBirth, .int .i64 t.fRoot.fSize, .int .i64 t.fRoot.fSum, .int .i64 t.fRoot.fLevel, .int .i64 t.fDepth, .int .i64 t.fMany] rfl rfl) (by kernel_rfl) ?_; clear HS; intro w25 HS; replace HS := Bx.mk HS
          have HS : Bx (St w0 ([boxA b10 7 40 (.agg #[.int .i64 t.fRoot.fAt, .int .i64 t.fRoot.fBirth, .int .i64 t.fRoot.fSize, .int .i64 t.fRoot.fSum, .int .i64 t.fRoot.fLevel, .int .i64 t.fDepth, .int .i64 t.fMany]), rowA encS 1 9 (.slice (some ⟨g2, 0, none⟩) 6 cp) ([y0, y1, y2, y3, y4, y5]), boxA b1 8 42 (rZ)]) _) := HS
          refine wl_as HF rfl rfl rfl rfl rfl ?_;clear HF a;intro a HF
          refine wl_ne ?_
          refine wp_sr ?_
          refine wl_mv HF rfl rfl rfl rfl rfl ?_;clear HF a;intro a HF
          refine wl_y rfl HF rfl rfl (yl_loadR (cs := [.int .i64 t.fRoot.fAt, .int .i64 t.fRoot.fBirth, .int .i64 t.fRoot.fSize, .int .i64 t.fRoot.fSum, .int .i64 t.fRoot.fLevel, .int .i64 t.fDepth, .int .i64 t.fMany]) rfl (HF.ev rfl) ((HS.out.box 0 rfl).sub 0 7) (by kernel_rfl)) ?_;clear HF a;intro a HF
          refine wl_y rfl HF rfl rfl (yl_build HF rfl (ps := [(0, .int .i64 0), (1, .agg #[.int .i64 t.fRoot.fAt, .int .i64 t.fRoot.fBirth, .int .i64 t.fRoot.fSize, .int .i64 t.fRoot.fSum, .int .i64 t.fRoot.fLevel, .int .i64 t.fDepth, .int .i64 t.fMany])]) rfl (cs := #[.int .i64 0, .int .i64 t.fRoot.fAt, .int .i64 t.fRoot.fBirth, .int .i64 t.fRoot.fSize, .int .i64 t.fRoot.fSum, .int .i64 t.fRoot.fLevel, .int .i64 t.fDepth, .int .i64 t.fMany]) (by kernel_rfl)) ?_;clear HF a;intro a HF
          refine wl_alloc rfl HF rfl rfl rfl (Z := [.int .i64 0, .int .i64 0, .int .i64 0, .int .i64 0, .int .i64 0, .int .i64 0, .int .i64 0, .int .i64 0]) (by kernel_rfl) rfl HS.out ?_; clear HF HS a; intro a w26 b11 HF HS; replace HS := Bx.mk HS
          refine wl_storeBox rfl HF rfl rfl (HF.ev rfl) (HF.ev rfl) HS.out 0 rfl (cells_lit [.int .i64 0, .int .i64 t.fRoot.fAt, .int .i64 t.fRoot.fBirth, .int .i64 t.fRoot.fSize, .int .i64 t.fRoot.fSum, .int .i64 t.fRoot.fLevel, .int .i64 t.fDepth, .int .i64 t.fMany] rfl rfl) (by kernel_rfl) ?_; clear HS; intro w27 HS; replace HS := Bx.mk HS
          have HS : Bx (St w0 ([boxA b11 8 42 (.agg #[.int .i64 0, .int .i64 t.fRoot.fAt, .int .i64 t.fRoot.fBirth, .int .i64 t.fRoot.fSize, .int .i64 t.fRoot.fSum, .int .i64 t.fRoot.fLevel, .int .i64 t.fDepth, .int .i64 t.fMany]), boxA b10 7 40 (.agg #[.int .i64 t.fRoot.fAt, .int .i64 t.fRoot.fBirth, .int .i64 t.fRoot.fSize, .int .i64 t.fRoot.fSum, .int .i64 t.fRoot.fLevel, .int .i64 t.fDepth, .int .i64 t.fMany]), rowA encS 1 9 (.slice (some ⟨g2, 0, none⟩) 6 cp) ([y0, y1, y2, y3, y4, y5]), boxA b1 8 42 (rZ)]) _) := HS
          refine wl_ne ?_
          refine wp_seq ?_
          refine wp_sr ?_
          refine wl_mv HF rfl rfl rfl rfl rfl ?_;clear HF a;intro a HF
          refine wl_y rfl HF rfl rfl (yl_not rfl (HF.ev rfl)) ?_;clear HF a;intro a HF
          refine wl_mv HF rfl rfl rfl rfl rfl ?_;clear HF a;intro a HF
          refine wl_skip HF rfl rfl rfl rfl rfl rfl ?_;clear HF a;intro a HF
          refine wl_skip HF rfl rfl rfl rfl rfl rfl ?_;clear HF a;intro a HF
          refine wl_y rfl HF rfl rfl (yl_pick_t rfl (HF.ev rfl) (HF.ev rfl)) ?_;clear HF a;intro a HF
          refine wl_mv HF rfl rfl rfl rfl rfl ?_;clear HF a;intro a HF
          refine wl_skip HF rfl rfl rfl rfl rfl rfl ?_;clear HF a;intro a HF
          refine wl_skip HF rfl rfl rfl rfl rfl rfl ?_;clear HF a;intro a HF
          refine wl_skip HF rfl rfl rfl rfl rfl rfl ?_;clear HF a;intro a HF
          refine wl_skip HF rfl rfl rfl rfl rfl rfl ?_;clear HF a;intro a HF
          refine wl_y rfl HF rfl rfl (yl_pick_t rfl (HF.ev rfl) (HF.ev rfl)) ?_;clear HF a;intro a HF
          refine wl_ne ?_
          refine wc_true HF rfl ?_
          refine wp_sr ?_
          refine wl_y rfl HF rfl rfl (yl_build HF rfl (ps := []) rfl (cs := #[.int .i64 0, .int .i64 0, .int .i64 0, .int .i64 0, .int .i64 0, .int .i64 0, .int .i64 0, .int .i64 0]) (by kernel_rfl)) ?_;clear HF a;intro a HF
          refine wl_storeBox rfl HF rfl rfl (HF.ev rfl) (HF.ev rfl) HS.out 3 rfl (cells_lit [.int .i64 0, .int .i64 0, .int .i64 0, .int .i64 0, .int .i64 0, .int .i64 0, .int .i64 0, .int .i64 0] rfl rfl) (by kernel_rfl) ?_; clear HS; intro w28 HS; replace HS := Bx.mk HS
          have HS : Bx (St w0 ([boxA b11 8 42 (.agg #[.int .i64 0, .int .i64 t.fRoot.fAt, .int .i64 t.fRoot.fBirth, .int .i64 t.fRoot.fSize, .int .i64 t.fRoot.fSum, .int .i64 t.fRoot.fLevel, .int .i64 t.fDepth, .int .i64 t.fMany]), boxA b10 7 40 (.agg #[.int .i64 t.fRoot.fAt, .int .i64 t.fRoot.fBirth, .int .i64 t.fRoot.fSize, .int .i64 t.fRoot.fSum, .int .i64 t.fRoot.fLevel, .int .i64 t.fDepth, .int .i64 t.fMany]), rowA encS 1 9 (.slice (some ⟨g2, 0, none⟩) 6 cp) ([y0, y1, y2, y3, y4, y5]), boxA b1 8 42 (rZ)]) _) := HS
          refine wl_as HF rfl rfl rfl rfl rfl ?_;clear HF a;intro a HF
          refine wl_ne ?_
          refine wp_ret ?_
          refine ex_then_ret ?_
          refine bp_ret2 HF Tryz.results101 (HF.resBox rfl (HS.out.box 3 rfl) (by kernel_rfl)) (HF.res rfl) ?_
          refine .inr ⟨fun x hx hxs => ?_, rfl, HS.out.bel⟩
          obtain ⟨l6, hl6⟩ := root_rec hx; rw [hxs] at hl6; have hx2 := rootB_le x; rw [hxs] at hx2; have hxa := RootD.all hx
          have hone := hrec.one hl6
          simp only [List.cons.injEq, and_true] at hone; obtain ⟨_, z1, z2, z3, z4, _⟩ := hone
          exact no_num (n := x.fTxg) ⟨by omega, by omega, z1.symm⟩ hg3
  · skip
    refine ⟨_, rfl, ?_⟩; replace HS := Bx.mk (HS.out.later hb); clear hb HF; clear a; intro a HF
    refine wl_mv HF rfl rfl rfl rfl rfl ?_;clear HF a;intro a HF
    refine wl_y rfl HF rfl rfl (yl_extract rfl (HF.ev rfl) rfl) ?_;clear HF a;intro a HF
    refine wl_y rfl HF rfl rfl (yl_extract rfl (HF.ev rfl) rfl) ?_;clear HF a;intro a HF
    refine wl_as HF rfl rfl rfl rfl rfl ?_;clear HF a;intro a HF
    refine wl_as HF rfl rfl rfl rfl rfl ?_;clear HF a;intro a HF
    refine wl_ne ?_
    refine wp_seq ?_
    refine wp_sr ?_
    refine wl_mv HF rfl rfl rfl rfl rfl ?_;clear HF a;intro a HF
    refine wl_y rfl HF rfl rfl (yl_not rfl (HF.ev rfl)) ?_;clear HF a;intro a HF
    refine wl_mv HF rfl rfl rfl rfl rfl ?_;clear HF a;intro a HF
    refine wl_skip HF rfl rfl rfl rfl rfl rfl ?_;clear HF a;intro a HF
    refine wl_skip HF rfl rfl rfl rfl rfl rfl ?_;clear HF a;intro a HF
    refine wl_skip HF rfl rfl rfl rfl rfl rfl ?_;clear HF a;intro a HF
    refine wl_y rfl HF rfl rfl (yl_pick_t rfl (HF.ev rfl) (HF.ev rfl)) ?_;clear HF a;intro a HF
    refine wl_ne ?_
    refine wc_true HF rfl ?_
    refine wp_sr ?_
    refine wl_y rfl HF rfl rfl (yl_build HF rfl (ps := []) rfl (cs := #[.int .i64 0, .int .i64 0, .int .i64 0, .int .i64 0, .int .i64 0, .int .i64 0, .int .i64 0, .int .i64 0]) (by kernel_rfl)) ?_;clear HF a;intro a HF
    refine wl_storeBox rfl HF rfl rfl (HF.ev rfl) (HF.ev rfl) HS.out 0 rfl (cells_lit [.int .i64 0, .int .i64 0, .int .i64 0, .int .i64 0, .int .i64 0, .int .i64 0, .int .i64 0, .int .i64 0] rfl rfl) (by kernel_rfl) ?_; clear HS; intro w29 HS; replace HS := Bx.mk HS
    have HS : Bx (St w0 ([boxA b1 8 42 (rZ)]) _) := HS
    refine wl_as HF rfl rfl rfl rfl rfl ?_;clear HF a;intro a HF
    refine wl_ne ?_
    refine wp_ret ?_
    refine ex_then_ret ?_
    refine bp_ret2 HF Tryz.results101 (HF.resBox rfl (HS.out.box 0 rfl) (by kernel_rfl)) (HF.res rfl) ?_
    refine .inr ⟨fun x hx hxs => ?_, rfl, HS.out.bel⟩
    obtain ⟨l6, hl6⟩ := root_rec hx; rw [hxs] at hl6; have hx2 := rootB_le x; rw [hxs] at hx2; have hxa := RootD.all hx
    exact hno _ hl6 hx2

end Go.Proofs.YtoaopmkbfifhaaaGreatDoor

/- Roots found on a set of disks: walked. -/
namespace Go.Proofs.YtoaopmkbfifhaaaGreatDoor
set_option linter.unusedVariables false
set_option linter.unusedSimpArgs false
set_option maxHeartbeats 1000000
set_option maxRecDepth 100000
open Go.RowKit

open Classical in
/-- The root that a text is the text of. -/
noncomputable def rootOf (s : ByteArray) : Option RootD := if h : ∃ x : RootD, x.ok = true ∧ rootB x = s then some h.choose else none
theorem rootOf_yes {s : ByteArray} {x : RootD} (hx : x.ok = true) (h : rootB x = s) : rootOf s = some x := by
  have he : ∃ x : RootD, x.ok = true ∧ rootB x = s := ⟨x, hx, h⟩
  unfold rootOf
  rw [dif_pos he]
  have hc := he.choose_spec
  rw [rootB_inj hc.1 hx (hc.2.trans h.symm)]
theorem rootOf_no {s : ByteArray} (h : ∀ x : RootD, x.ok = true → rootB x = s → False) : rootOf s = none := by
  unfold rootOf
  rw [dif_neg fun ⟨x, hx, hs⟩ => h x hx hs]
def rootZ : RootD := ⟨0, ⟨PtrD.zero, 0, 0⟩⟩
noncomputable def gotR (s : ByteArray) : RootD := (rootOf s).getD rootZ
noncomputable def gotB (s : ByteArray) : Bool := (rootOf s).isSome
theorem got_ok {s : ByteArray} (h : gotB s = true) : (gotR s).ok = true ∧ rootB (gotR s) = s := by
  by_cases he : ∃ x : RootD, x.ok = true ∧ rootB x = s
  · obtain ⟨x, hx, hs⟩ := he
    unfold gotR
    rw [rootOf_yes hx hs]
    exact ⟨hx, hs⟩
  · unfold gotB at h
    rw [rootOf_no fun x hx hs => he ⟨x, hx, hs⟩] at h
    cases h
theorem rootGet_f (s : ByteArray) (w0 : World) (hT : TabP w0) (hM : MaxP w0) (hE : ErrP w0) (hs : s.size ≤ 9223372036854775807) : Calls Tryz.prog 101 #[.string s] w0 fun e w' => e = .returned (.tuple #[(rV (gotR s)), .bool (gotB s)]) ∧ Below w0.heap.size w0 w' := by
  refine (rootGet_any s w0 hT hM hE hs).mono ?_
  rintro e w' (⟨x, hx, h, rfl, hb⟩ | ⟨h, rfl, hb⟩)
  · refine ⟨?_, hb⟩
    unfold gotR gotB; rw [rootOf_yes hx h]; rfl
  · refine ⟨?_, hb⟩
    unfold gotR gotB; rw [rootOf_no h]; rfl
/-- The better one of the best so far and of the root of a text. -/
noncomputable def bestR (b : RootD) (row : Nat) (s : ByteArray) : RootD := if gotB s = true ∧ (gotR s).fTxg % 4 = (row : Int) ∧ b.fTxg < (gotR s).fTxg then gotR s else b
noncomputable def bestTo (ds : List DiskD) (row : Nat) : Nat → RootD
  | 0 => rootZ
  | k + 1 => if (ds.getD k default).fGone = true then bestTo ds row k else bestR (bestTo ds row k) row ((ds.getD k default).look row)
noncomputable def rootAtF (ds : List DiskD) (row : Int) : RootD × Bool := if okR ds = true ∧ inB row 0 3 = true then (bestTo ds row.toNat ds.length, decide (0 < (bestTo ds row.toNat ds.length).fTxg)) else (rootZ, false)
theorem dsAt (ps : List HD) (k : Nat) : (dsOf ps).getD k default = (ps.getD k default).d := dsOf_get ps k

theorem rootAt_any (a0 : Option Addr) (c0 : Nat) (ps : List HD) (w0 : World) (hT : TabP w0) (hM : MaxP w0) (hE : ErrP w0) (hl : ps.length = 3) (hok : ∀ k, k < ps.length → (ps.getD k default).d.ok = true) (hR : Rd HD.cells 3 w0 a0 ps.length ps) (hP : ∀ k, k < ps.length → (ps.getD k default).reads w0) (row : Nat) (hrow : row < 4) : Calls Tryz.prog 55 #[.agg #[.slice a0 ps.length c0], .int .i64 (row : Int)] w0 fun e w' => e = .returned (.tuple #[(rV (bestTo (dsOf ps) row ps.length)), .bool (decide (0 < (bestTo (dsOf ps) row ps.length).fTxg))]) ∧ Below w0.heap.size w0 w' := by
 have HT := Bx.mk hT; have HM := Bx.mk hM; have HE := Bx.mk hE; have HR := Bx.mk hR; have HP := Bx.mk hP; clear hT hM hE hR hP
 have HS := Bx.mk (St.start w0)
 refine wc_enter Tryz.func55 rfl Tryz.ntmps55 [(0, .agg #[.slice a0 ps.length c0]), (1, .int .i64 (row : Int))] ⟨rfl, rfl, trivial⟩ rfl ?_; intro a HF
 refine wp_sr ?_
 refine wl_box rfl HF rfl (HF.ev rfl) (Z := [.slice a0 ps.length c0]) rfl rfl rfl rfl HS.out ?_; clear HF HS a; intro a w1 b1 HF HS; replace HS := Bx.mk HS
 refine wl_alloc rfl HF rfl rfl rfl (Z := [.int .i64 0, .int .i64 0, .int .i64 0, .int .i64 0, .int .i64 0, .int .i64 0, .int .i64 0, .int .i64 0]) (by kernel_rfl) rfl HS.out ?_; clear HF HS a; intro a w2 b2 HF HS; replace HS := Bx.mk HS
 refine wl_as HF rfl rfl rfl rfl rfl ?_;clear HF a;intro a HF
 refine wl_ne ?_
 refine wp_sr ?_
 refine wl_alloc rfl HF rfl rfl rfl (Z := [.int .i64 0, .int .i64 0, .int .i64 0, .int .i64 0, .int .i64 0, .int .i64 0, .int .i64 0, .int .i64 0]) (by kernel_rfl) rfl HS.out ?_; clear HF HS a; intro a w3 b3 HF HS; replace HS := Bx.mk HS
 refine wl_ne ?_
 refine wp_seq ?_
 refine wp_sr ?_
 refine wl_y rfl HF rfl rfl (yl_fieldAddr (j := 0) rfl (HF.ev rfl) (by kernel_rfl)) ?_;clear HF a;intro a HF
 refine wl_y rfl HF rfl rfl (yl_load (v := .slice a0 ps.length c0) rfl (HF.ev rfl) (((HS.out.box 2 rfl).cell 0).trans rfl) (by kernel_rfl)) ?_;clear HF a;intro a HF
 refine wl_y rfl HF rfl rfl (yl_lenL (e := 94) (size := 3) rfl (HF.ev rfl) (by kernel_rfl)) ?_;clear HF a;intro a HF
 refine wl_mv HF rfl rfl rfl rfl rfl ?_;clear HF a;intro a HF
 refine wl_ne ?_
 refine wp_block ?_
 replace HS : Bx (St w0 ([boxA b3 8 42 (rV (bestTo (dsOf ps) row 0)), boxA b2 8 42 (rZ), boxA b1 1 34 (.agg #[.slice a0 ps.length c0])]) _) := ⟨HS.out⟩
 refine wc_loop (ι := Nat) (fun k a w => (k ≤ ps.length) ∧ Fr 48 a [(1, .int .i64 (row : Int)), (2, .pointer (some ⟨b1, 0, none⟩)), (4, .pointer (some ⟨b2, 0, none⟩)), (6, .pointer (some ⟨b3, 0, none⟩)), (12, .slice a0 ps.length c0), (13, .int .i64 (ps.length : Int)), (14, .int .i64 (k : Int))] ∧ St w0 ([boxA b3 8 42 (rV (bestTo (dsOf ps) row k)), boxA b2 8 42 (rZ), boxA b1 1 34 (.agg #[.slice a0 ps.length c0])]) w) (fun k => ps.length - k) 0 ⟨Nat.zero_le _, HF.less _ ⟨rfl, rfl, rfl, rfl, rfl, rfl, rfl, trivial⟩, HS.out⟩ ?_
 clear HF HS; clear a
 rintro k a w4 ⟨hk, HF, HS⟩
 replace HS := Bx.mk HS
 refine wp_sr ?_
 refine wl_y rfl HF rfl rfl (yl_lssI rfl (HF.ev rfl) (HF.ev rfl)) ?_;clear HF a;intro a HF
 refine wl_ne ?_
 refine wp_seq ?_
 refine HF.cases 15 rfl (fun cc1 HF1 => ?_) (fun cc1 HF1 => ?_)
 ·clear HF; have HF := HF1; clear HF1
  have dcc1 := of_decide_eq_true cc1
  refine wc_true HF rfl ?_
  refine wp_skip ?_
  refine ex_then ?_
  refine wp_seq ?_
  refine wp_block ?_
  refine wp_seq ?_
  obtain ⟨g0, o0, r0⟩ := HR.out.opn; have R0 := Bx.mk r0; clear r0
  have hok2 := ok_waits (hok k (by omega))
  refine wp_region_lit ?_
  refine wl_y rfl HF rfl rfl (yl_indexAddrR (e := 94) (i := k) (size := 3) rfl (HF.ev rfl) (HF.ev rfl) (by kernel_rfl) rfl (by omega) (R0.out.ao k (by omega))) ?_;clear HF a;intro a HF
  refine wl_y rfl HF rfl rfl (yl_loadR (cs := [.slice ((ps.getD k default).a0) ((ps.getD k default).d.fCells.length) ((ps.getD k default).c0), .slice ((ps.getD k default).a1) ((ps.getD k default).d.fWaits.length) ((ps.getD k default).c1), .bool ((ps.getD k default).d.fGone)]) rfl (HF.ev rfl) (R0.out.elem HS.out (get_getD (xs := ps) (j := k) (d := default) (by omega))) (by kernel_rfl)) ?_;clear HF a;intro a HF
  refine wl_alloc rfl HF rfl rfl rfl (Z := [.slice none 0 0, .slice none 0 0, .bool false]) (by kernel_rfl) rfl HS.out ?_; clear HF HS a; intro a w5 b4 HF HS; replace HS := Bx.mk HS
  refine wl_storeBox rfl HF rfl rfl (HF.ev rfl) (HF.ev rfl) HS.out 0 rfl (cells_lit [.slice ((ps.getD k default).a0) ((ps.getD k default).d.fCells.length) ((ps.getD k default).c0), .slice ((ps.getD k default).a1) ((ps.getD k default).d.fWaits.length) ((ps.getD k default).c1), .bool ((ps.getD k default).d.fGone)] rfl rfl) (by kernel_rfl) ?_; clear HS; intro w6 HS; replace HS := Bx.mk HS
  have HS : Bx (St w0 ([boxA b4 3 94 (.agg #[.slice ((ps.getD k default).a0) ((ps.getD k default).d.fCells.length) ((ps.getD k default).c0), .slice ((ps.getD k default).a1) ((ps.getD k default).d.fWaits.length) ((ps.getD k default).c1), .bool ((ps.getD k default).d.fGone)]), boxA b3 8 42 (rV (bestTo (dsOf ps) row k)), boxA b2 8 42 (rZ), boxA b1 1 34 (.agg #[.slice a0 ps.length c0])]) _) := HS
  refine wl_ne ?_
  refine wp_seq ?_
  refine wp_sr ?_
  refine wl_y rfl HF rfl rfl (yl_fieldAddr (j := 2) rfl (HF.ev rfl) (by kernel_rfl)) ?_;clear HF a;intro a HF
  refine wl_y rfl HF rfl rfl (yl_load (v := .bool ((ps.getD k default).d.fGone)) rfl (HF.ev rfl) (((HS.out.box 0 rfl).cell 2).trans rfl) (by kernel_rfl)) ?_;clear HF a;intro a HF
  refine wl_ne ?_
  refine HF.cases 19 rfl (fun cc2 HF1 => ?_) (fun cc2 HF1 => ?_)
  ·clear HF; have HF := HF1; clear HF1
   refine wc_true HF rfl ?_
   refine wp_exit ?_
   refine ex_then_exit ?_
   refine ex_block_hit ?_
   refine ex_then ?_
   refine wp_region_lit ?_
   refine wl_y rfl HF rfl rfl (yl_addI rfl (HF.ev rfl) (HF.ev rfl) (i64w (by omega))) ?_;clear HF a;intro a HF
   refine wl_mv HF rfl rfl rfl rfl rfl ?_;clear HF a;intro a HF
   refine wl_ne ?_
   have hst : bestTo (dsOf ps) row (k + 1) = bestTo (dsOf ps) row k := by show (if _ then _ else _) = _; rw [dsAt, if_pos cc2]
   replace HS : Bx (St w0 ([boxA b4 3 94 (.agg #[.slice ((ps.getD k default).a0) ((ps.getD k default).d.fCells.length) ((ps.getD k default).c0), .slice ((ps.getD k default).a1) ((ps.getD k default).d.fWaits.length) ((ps.getD k default).c1), .bool ((ps.getD k default).d.fGone)]), boxA b3 8 42 (rV (bestTo (dsOf ps) row (k + 1))), boxA b2 8 42 (rZ), boxA b1 1 34 (.agg #[.slice a0 ps.length c0])]) _) := ⟨by rw [hst]; exact HS.out⟩
   replace HS:=Bx.mk (((HS.out.pick 3 rfl).pick 3 rfl).pick 3 rfl)
   exact ⟨k + 1, ⟨(by omega), HF.less _ ⟨rfl, rfl, rfl, rfl, rfl, rfl, rfl, trivial⟩, (HS.out.erase 3)⟩, (by omega)⟩
  ·clear HF; have HF := HF1; clear HF1
   refine wc_false HF rfl ?_
   refine wp_skip ?_
   refine ex_then ?_
   refine wp_sr ?_
   refine wl_y rfl HF rfl rfl (yl_loadR (cs := [.slice ((ps.getD k default).a0) ((ps.getD k default).d.fCells.length) ((ps.getD k default).c0), .slice ((ps.getD k default).a1) ((ps.getD k default).d.fWaits.length) ((ps.getD k default).c1), .bool ((ps.getD k default).d.fGone)]) rfl (HF.ev rfl) ((HS.out.box 0 rfl).sub 0 3) (by kernel_rfl)) ?_;clear HF a;intro a HF
   refine wl_mv HF rfl rfl rfl rfl rfl ?_;clear HF a;intro a HF
   refine wl_callB rfl HF rfl (enter_of Tryz.func102 (by kernel_rfl) rfl) (args := #[.agg #[.slice ((ps.getD k default).a0) ((ps.getD k default).d.fCells.length) ((ps.getD k default).c0), .slice ((ps.getD k default).a1) ((ps.getD k default).d.fWaits.length) ((ps.getD k default).c1), .bool ((ps.getD k default).d.fGone)], .int .i64 (row : Int)]) rfl (v := .string ((ps.getD k default).d.look row)) ((look_any (ps.getD k default).a0 (ps.getD k default).c0 (ps.getD k default).a1 (ps.getD k default).c1 (ps.getD k default).d row _ (by rw [hok2.1]; omega) (by omega) ((HP.out k (by omega)).below HS.out.bel).rc ((HP.out k (by omega)).below HS.out.bel).rw)) rfl rfl HS.out ?_; clear HF HS a; intro w7 a HS HF; replace HS := Bx.mk HS
   refine wl_call rfl HF rfl (enter_of Tryz.func101 (by kernel_rfl) rfl) (args := #[.string ((ps.getD k default).d.look row)]) rfl (rootGet_f ((ps.getD k default).d.look row) _ (HT.out.below HS.out.bel) (HM.out.below HS.out.bel) (HE.out.below HS.out.bel) (by have := look_le (hok k (by omega)) row (by omega); omega)) rfl rfl ?_
   rintro _ w8 ⟨rfl, hb⟩
   refine ⟨_, rfl, ?_⟩; replace HS := Bx.mk (HS.out.later hb); clear hb HF; clear a; intro a HF
   obtain ⟨xg, hxg⟩ : ∃ x, x = gotR ((ps.getD k default).d.look row) := ⟨_, rfl⟩; obtain ⟨bg, hbg⟩ : ∃ b, b = gotB ((ps.getD k default).d.look row) := ⟨_, rfl⟩; rw [← hxg, ← hbg] at HF
   have hxb : bg = true → 1 ≤ xg.fTxg ∧ xg.fTxg ≤ 900 := fun hh => by rw [hxg]; rw [hbg] at hh; exact (RootD.all (got_ok hh).1).1
   refine wl_mv HF rfl rfl rfl rfl rfl ?_;clear HF a;intro a HF
   refine wl_y rfl HF rfl rfl (yl_extract rfl (HF.ev rfl) rfl) ?_;clear HF a;intro a HF
   refine wl_y rfl HF rfl rfl (yl_extract rfl (HF.ev rfl) rfl) ?_;clear HF a;intro a HF
   refine wl_alloc rfl HF rfl rfl rfl (Z := [.int .i64 0, .int .i64 0, .int .i64 0, .int .i64 0, .int .i64 0, .int .i64 0, .int .i64 0, .int .i64 0]) (by kernel_rfl) rfl HS.out ?_; clear HF HS a; intro a w9 b5 HF HS; replace HS := Bx.mk HS
   refine wl_storeBox rfl HF rfl rfl (HF.ev rfl) (HF.ev rfl) HS.out 0 rfl (cells_lit [.int .i64 xg.fTxg, .int .i64 xg.fMeta.fRoot.fAt, .int .i64 xg.fMeta.fRoot.fBirth, .int .i64 xg.fMeta.fRoot.fSize, .int .i64 xg.fMeta.fRoot.fSum, .int .i64 xg.fMeta.fRoot.fLevel, .int .i64 xg.fMeta.fDepth, .int .i64 xg.fMeta.fMany] rfl rfl) (by kernel_rfl) ?_; clear HS; intro w10 HS; replace HS := Bx.mk HS
   have HS : Bx (St w0 ([boxA b5 8 42 (rV xg), boxA b4 3 94 (.agg #[.slice ((ps.getD k default).a0) ((ps.getD k default).d.fCells.length) ((ps.getD k default).c0), .slice ((ps.getD k default).a1) ((ps.getD k default).d.fWaits.length) ((ps.getD k default).c1), .bool ((ps.getD k default).d.fGone)]), boxA b3 8 42 (rV (bestTo (dsOf ps) row k)), boxA b2 8 42 (rZ), boxA b1 1 34 (.agg #[.slice a0 ps.length c0])]) _) := HS
   refine wl_as HF rfl rfl rfl rfl rfl ?_;clear HF a;intro a HF
   refine wl_ne ?_
   refine wp_sr ?_
   refine wl_mv HF rfl rfl rfl rfl rfl ?_;clear HF a;intro a HF
   refine wl_mv HF rfl rfl rfl rfl rfl ?_;clear HF a;intro a HF
   refine HF.cases 28 rfl (fun cc3 HF1 => ?_) (fun cc3 HF1 => ?_)
   ·clear HF; have HF := HF1; clear HF1
    have hx1 := hxb cc3
    refine wl_yg HF rfl rfl rfl rfl rfl (yl_fieldAddr (j := 0) rfl (HF.ev rfl) (by kernel_rfl)) ?_;clear HF a;intro a HF
    refine wl_yg HF rfl rfl rfl rfl rfl (yl_load (v := .int .i64 xg.fTxg) rfl (HF.ev rfl) (((HS.out.box 0 rfl).cell 0).trans rfl) (by kernel_rfl)) ?_;clear HF a;intro a HF
    refine wl_yg HF rfl rfl rfl rfl rfl (yl_remI rfl (HF.ev rfl) (HF.ev rfl) (by omega) (rem_pos (by omega) (by omega))) ?_;clear HF a;intro a HF
    refine wl_yg HF rfl rfl rfl rfl rfl (yl_move rfl (HF.ev rfl)) ?_;clear HF a;intro a HF
    refine wl_yg HF rfl rfl rfl rfl rfl (yl_eqlI rfl (HF.ev rfl) (HF.ev rfl)) ?_;clear HF a;intro a HF
    refine wl_y rfl HF rfl rfl (yl_pick_t rfl (HF.ev rfl) (HF.ev rfl)) ?_;clear HF a;intro a HF
    refine wl_mv HF rfl rfl rfl rfl rfl ?_;clear HF a;intro a HF
    refine HF.cases 35 rfl (fun cc4 HF1 => ?_) (fun cc4 HF1 => ?_)
    ·clear HF; have HF := HF1; clear HF1
     have dcc4 := eq_of_beq cc4
     refine wl_yg HF rfl rfl rfl rfl rfl (yl_fieldAddr (j := 0) rfl (HF.ev rfl) (by kernel_rfl)) ?_;clear HF a;intro a HF
     refine wl_yg HF rfl rfl rfl rfl rfl (yl_load (v := .int .i64 xg.fTxg) rfl (HF.ev rfl) (((HS.out.box 0 rfl).cell 0).trans rfl) (by kernel_rfl)) ?_;clear HF a;intro a HF
     refine wl_yg HF rfl rfl rfl rfl rfl (yl_fieldAddr (j := 0) rfl (HF.ev rfl) (by kernel_rfl)) ?_;clear HF a;intro a HF
     refine wl_yg HF rfl rfl rfl rfl rfl (yl_load (v := .int .i64 ((bestTo (dsOf ps) row k).fTxg)) rfl (HF.ev rfl) (((HS.out.box 2 rfl).cell 0).trans rfl) (by kernel_rfl)) ?_;clear HF a;intro a HF
     refine wl_yg HF rfl rfl rfl rfl rfl (yl_gtrI rfl (HF.ev rfl) (HF.ev rfl)) ?_;clear HF a;intro a HF
     refine wl_y rfl HF rfl rfl (yl_pick_t rfl (HF.ev rfl) (HF.ev rfl)) ?_;clear HF a;intro a HF
     refine wl_ne ?_
     refine HF.cases 41 rfl (fun cc5 HF1 => ?_) (fun cc5 HF1 => ?_)
     ·clear HF; have HF := HF1; clear HF1
      have dcc5 := of_decide_eq_true cc5
      refine wc_true HF rfl ?_
      refine wp_region_lit ?_
      refine wl_y rfl HF rfl rfl (yl_loadR (cs := [.int .i64 xg.fTxg, .int .i64 xg.fMeta.fRoot.fAt, .int .i64 xg.fMeta.fRoot.fBirth, .int .i64 xg.fMeta.fRoot.fSize, .int .i64 xg.fMeta.fRoot.fSum, .int .i64 xg.fMeta.fRoot.fLevel, .int .i64 xg.fMeta.fDepth, .int .i64 xg.fMeta.fMany]) rfl (HF.ev rfl) ((HS.out.box 0 rfl).sub 0 8) (by kernel_rfl)) ?_;clear HF a;intro a HF
      refine wl_storeBox rfl HF rfl rfl (HF.ev rfl) (HF.ev rfl) HS.out 2 rfl (cells_lit [.int .i64 xg.fTxg, .int .i64 xg.fMeta.fRoot.fAt, .int .i64 xg.fMeta.fRoot.fBirth, .int .i64 xg.fMeta.fRoot.fSize, .int .i64 xg.fMeta.fRoot.fSum, .int .i64 xg.fMeta.fRoot.fLevel, .int .i64 xg.fMeta.fDepth, .int .i64 xg.fMeta.fMany] rfl rfl) (by kernel_rfl) ?_; clear HS; intro w11 HS; replace HS := Bx.mk HS
      have HS : Bx (St w0 ([boxA b5 8 42 (rV xg), boxA b4 3 94 (.agg #[.slice ((ps.getD k default).a0) ((ps.getD k default).d.fCells.length) ((ps.getD k default).c0), .slice ((ps.getD k default).a1) ((ps.getD k default).d.fWaits.length) ((ps.getD k default).c1), .bool ((ps.getD k default).d.fGone)]), boxA b3 8 42 (rV xg), boxA b2 8 42 (rZ), boxA b1 1 34 (.agg #[.slice a0 ps.length c0])]) _) := HS
      refine wpList_nil ?_
      refine ex_block ?_
      refine ex_then ?_
      refine wp_region_lit ?_
      refine wl_y rfl HF rfl rfl (yl_addI rfl (HF.ev rfl) (HF.ev rfl) (i64w (by omega))) ?_;clear HF a;intro a HF
      refine wl_mv HF rfl rfl rfl rfl rfl ?_;clear HF a;intro a HF
      refine wl_ne ?_
      have hst0 : bestTo (dsOf ps) row (k + 1) = bestR (bestTo (dsOf ps) row k) row ((ps.getD k default).d.look row) := by show (if _ then _ else _) = _; rw [dsAt, if_neg (by rw [cc2]; simp)]
      have hst : bestTo (dsOf ps) row (k + 1) = xg := by rw [hst0]; unfold bestR; rw [← hxg, ← hbg, if_pos ⟨by assumption, by omega, by omega⟩]
      replace HS : Bx (St w0 ([boxA b5 8 42 (rV xg), boxA b4 3 94 (.agg #[.slice ((ps.getD k default).a0) ((ps.getD k default).d.fCells.length) ((ps.getD k default).c0), .slice ((ps.getD k default).a1) ((ps.getD k default).d.fWaits.length) ((ps.getD k default).c1), .bool ((ps.getD k default).d.fGone)]), boxA b3 8 42 (rV (bestTo (dsOf ps) row (k + 1))), boxA b2 8 42 (rZ), boxA b1 1 34 (.agg #[.slice a0 ps.length c0])]) _) := ⟨by rw [hst]; exact HS.out⟩
      replace HS:=Bx.mk (((HS.out.pick 4 rfl).pick 4 rfl).pick 4 rfl)
      exact ⟨k + 1, ⟨(by omega), HF.less _ ⟨rfl, rfl, rfl, rfl, rfl, rfl, rfl, trivial⟩, ((HS.out.erase 4).erase 3)⟩, (by omega)⟩
     ·clear HF; have HF := HF1; clear HF1
      have dcc5 := of_decide_eq_false cc5
      refine wc_false HF rfl ?_
      refine wp_skip ?_
      refine ex_block ?_
      refine ex_then ?_
      refine wp_region_lit ?_
      refine wl_y rfl HF rfl rfl (yl_addI rfl (HF.ev rfl) (HF.ev rfl) (i64w (by omega))) ?_;clear HF a;intro a HF
      refine wl_mv HF rfl rfl rfl rfl rfl ?_;clear HF a;intro a HF
      refine wl_ne ?_
      have hst0 : bestTo (dsOf ps) row (k + 1) = bestR (bestTo (dsOf ps) row k) row ((ps.getD k default).d.look row) := by show (if _ then _ else _) = _; rw [dsAt, if_neg (by rw [cc2]; simp)]
      have hst : bestTo (dsOf ps) row (k + 1) = bestTo (dsOf ps) row k := by rw [hst0]; unfold bestR; rw [← hxg, ← hbg, if_neg (by intro h; have h1 := h.2.1; have h2 := h.2.2; omega)]
      replace HS : Bx (St w0 ([boxA b5 8 42 (rV xg), boxA b4 3 94 (.agg #[.slice ((ps.getD k default).a0) ((ps.getD k default).d.fCells.length) ((ps.getD k default).c0), .slice ((ps.getD k default).a1) ((ps.getD k default).d.fWaits.length) ((ps.getD k default).c1), .bool ((ps.getD k default).d.fGone)]), boxA b3 8 42 (rV (bestTo (dsOf ps) row (k + 1))), boxA b2 8 42 (rZ), boxA b1 1 34 (.agg #[.slice a0 ps.length c0])]) _) := ⟨by rw [hst]; exact HS.out⟩
      replace HS:=Bx.mk (((HS.out.pick 4 rfl).pick 4 rfl).pick 4 rfl)
      exact ⟨k + 1, ⟨(by omega), HF.less _ ⟨rfl, rfl, rfl, rfl, rfl, rfl, rfl, trivial⟩, ((HS.out.erase 4).erase 3)⟩, (by omega)⟩
    ·clear HF; have HF := HF1; clear HF1
     have dcc4 := ne_of_beq_false cc4
     refine wl_skip HF rfl rfl rfl rfl rfl rfl ?_;clear HF a;intro a HF
     refine wl_skip HF rfl rfl rfl rfl rfl rfl ?_;clear HF a;intro a HF
     refine wl_skip HF rfl rfl rfl rfl rfl rfl ?_;clear HF a;intro a HF
     refine wl_skip HF rfl rfl rfl rfl rfl rfl ?_;clear HF a;intro a HF
     refine wl_skip HF rfl rfl rfl rfl rfl rfl ?_;clear HF a;intro a HF
     refine wl_y rfl HF rfl rfl (yl_pick_f rfl (HF.ev rfl) (HF.ev rfl)) ?_;clear HF a;intro a HF
     refine wl_ne ?_
     refine wc_false HF rfl ?_
     refine wp_skip ?_
     refine ex_block ?_
     refine ex_then ?_
     refine wp_region_lit ?_
     refine wl_y rfl HF rfl rfl (yl_addI rfl (HF.ev rfl) (HF.ev rfl) (i64w (by omega))) ?_;clear HF a;intro a HF
     refine wl_mv HF rfl rfl rfl rfl rfl ?_;clear HF a;intro a HF
     refine wl_ne ?_
     have hst0 : bestTo (dsOf ps) row (k + 1) = bestR (bestTo (dsOf ps) row k) row ((ps.getD k default).d.look row) := by show (if _ then _ else _) = _; rw [dsAt, if_neg (by rw [cc2]; simp)]
     have hst : bestTo (dsOf ps) row (k + 1) = bestTo (dsOf ps) row k := by rw [hst0]; unfold bestR; rw [← hxg, ← hbg, if_neg (by intro h; have h1 := h.2.1; have h2 := h.2.2; omega)]
     replace HS : Bx (St w0 ([boxA b5 8 42 (rV xg), boxA b4 3 94 (.agg #[.slice ((ps.getD k default).a0) ((ps.getD k default).d.fCells.length) ((ps.getD k default).c0), .slice ((ps.getD k default).a1) ((ps.getD k default).d.fWaits.length) ((ps.getD k default).c1), .bool ((ps.getD k default).d.fGone)]), boxA b3 8 42 (rV (bestTo (dsOf ps) row (k + 1))), boxA b2 8 42 (rZ), boxA b1 1 34 (.agg #[.slice a0 ps.length c0])]) _) := ⟨by rw [hst]; exact HS.out⟩
     replace HS:=Bx.mk (((HS.out.pick 4 rfl).pick 4 rfl).pick 4 rfl)
     exact ⟨k + 1, ⟨(by omega), HF.less _ ⟨rfl, rfl, rfl, rfl, rfl, rfl, rfl, trivial⟩, ((HS.out.erase 4).erase 3)⟩, (by omega)⟩
   ·clear HF; have HF := HF1; clear HF1
    refine wl_skip HF rfl rfl rfl rfl rfl rfl ?_;clear HF a;intro a HF
    refine wl_skip HF rfl rfl rfl rfl rfl rfl ?_;clear HF a;intro a HF
    refine wl_skip HF rfl rfl rfl rfl rfl rfl ?_;clear HF a;intro a HF
    refine wl_skip HF rfl rfl rfl rfl rfl rfl ?_;clear HF a;intro a HF
    refine wl_skip HF rfl rfl rfl rfl rfl rfl ?_;clear HF a;intro a HF
    refine wl_y rfl HF rfl rfl (yl_pick_f rfl (HF.ev rfl) (HF.ev rfl)) ?_;clear HF a;intro a HF
    refine wl_mv HF rfl rfl rfl rfl rfl ?_;clear HF a;intro a HF
    refine wl_skip HF rfl rfl rfl rfl rfl rfl ?_;clear HF a;intro a HF
    refine wl_skip HF rfl rfl rfl rfl rfl rfl ?_;clear HF a;intro a HF
    refine wl_skip HF rfl rfl rfl rfl rfl rfl ?_;clear HF a;intro a HF
    refine wl_skip HF rfl rfl rfl rfl rfl rfl ?_;clear HF a;intro a HF
    refine wl_skip HF rfl rfl rfl rfl rfl rfl ?_;clear HF a;intro a HF
    refine wl_y rfl HF rfl rfl (yl_pick_f rfl (HF.ev rfl) (HF.ev rfl)) ?_;clear HF a;intro a HF
    refine wl_ne ?_
    refine wc_false HF rfl ?_
    refine wp_skip ?_
    refine ex_block ?_
    refine ex_then ?_
    refine wp_region_lit ?_
    refine wl_y rfl HF rfl rfl (yl_addI rfl (HF.ev rfl) (HF.ev rfl) (i64w (by omega))) ?_;clear HF a;intro a HF
    refine wl_mv HF rfl rfl rfl rfl rfl ?_;clear HF a;intro a HF
    refine wl_ne ?_
    have hst0 : bestTo (dsOf ps) row (k + 1) = bestR (bestTo (dsOf ps) row k) row ((ps.getD k default).d.look row) := by show (if _ then _ else _) = _; rw [dsAt, if_neg (by rw [cc2]; simp)]
    have hst : bestTo (dsOf ps) row (k + 1) = bestTo (dsOf ps) row k := by rw [hst0]; unfold bestR; rw [← hxg, ← hbg, if_neg (by exact fun h => by rw [cc3] at h; cases h.1)]
    replace HS : Bx (St w0 ([boxA b5 8 42 (rV xg), boxA b4 3 94 (.agg #[.slice ((ps.getD k default).a0) ((ps.getD k default).d.fCells.length) ((ps.getD k default).c0), .slice ((ps.getD k default).a1) ((ps.getD k default).d.fWaits.length) ((ps.getD k default).c1), .bool ((ps.getD k default).d.fGone)]), boxA b3 8 42 (rV (bestTo (dsOf ps) row (k + 1))), boxA b2 8 42 (rZ), boxA b1 1 34 (.agg #[.slice a0 ps.length c0])]) _) := ⟨by rw [hst]; exact HS.out⟩
    replace HS:=Bx.mk (((HS.out.pick 4 rfl).pick 4 rfl).pick 4 rfl)
    exact ⟨k + 1, ⟨(by omega), HF.less _ ⟨rfl, rfl, rfl, rfl, rfl, rfl, rfl, trivial⟩, ((HS.out.erase 4).erase 3)⟩, (by omega)⟩
 ·clear HF; have HF := HF1; clear HF1
  have dcc1 := of_decide_eq_false cc1
  refine wc_false HF rfl ?_
  refine wp_exit ?_
  refine ex_then_exit ?_
  refine ex_then_exit ?_
  refine ex_block_hit ?_
  refine ex_then ?_
  refine wp_seq ?_
  obtain rfl : k = ps.length := by omega
  refine wr_heldS (s := [boxA b3 8 42 (rV (bestTo (dsOf ps) row ps.length)), boxA b1 1 34 (.agg #[.slice a0 ps.length c0])]) (by kernel_rfl) (St.drew ((HS.out.erase 1))) ?_
  have HS2 := Bx.mk HS.out.drew; replace HS := Bx.mk (show St w0 ([boxA b3 8 42 (rV (bestTo (dsOf ps) row ps.length)), boxA b1 1 34 (.agg #[.slice a0 ps.length c0])]) _ from (HS.out.drew.erase 1))
  generalize World.drew _ = w12 at HS HS2 ⊢
  refine wh_y 0 rfl (by kernel_rfl) (by kernel_rfl) (by kernel_rfl) (fun _ _ _ h => h) rfl HF rfl rfl (fun _ HS => (yl_loadR (cs := [.int .i64 ((bestTo (dsOf ps) row ps.length).fTxg), .int .i64 ((bestTo (dsOf ps) row ps.length).fMeta.fRoot.fAt), .int .i64 ((bestTo (dsOf ps) row ps.length).fMeta.fRoot.fBirth), .int .i64 ((bestTo (dsOf ps) row ps.length).fMeta.fRoot.fSize), .int .i64 ((bestTo (dsOf ps) row ps.length).fMeta.fRoot.fSum), .int .i64 ((bestTo (dsOf ps) row ps.length).fMeta.fRoot.fLevel), .int .i64 ((bestTo (dsOf ps) row ps.length).fMeta.fDepth), .int .i64 ((bestTo (dsOf ps) row ps.length).fMeta.fMany)]) rfl (HF.ev rfl) ((HS.box 0 rfl).sub 0 8) (by kernel_rfl))) HS.out ?_;clear HF a;intro a HF
  refine wh_y 1 rfl (by kernel_rfl) (by kernel_rfl) (by kernel_rfl) (fun _ _ _ h => h) rfl HF rfl rfl (fun _ HS => (yl_fieldAddr (j := 0) rfl (HF.ev rfl) (by kernel_rfl))) HS.out ?_;clear HF a;intro a HF
  refine wh_y 2 rfl (by kernel_rfl) (by kernel_rfl) (by kernel_rfl) (fun _ _ _ h => h) rfl HF rfl rfl (fun _ HS => (yl_load (v := .int .i64 ((bestTo (dsOf ps) row ps.length).fTxg)) rfl (HF.ev rfl) (((HS.box 0 rfl).cell 0).trans rfl) (by kernel_rfl))) HS.out ?_;clear HF a;intro a HF
  refine wh_y 3 rfl (by kernel_rfl) (by kernel_rfl) (by kernel_rfl) (fun _ _ _ h => h) rfl HF rfl rfl (fun _ HS => (yl_gtrI rfl (HF.ev rfl) (HF.ev rfl))) HS.out ?_;clear HF a;intro a HF
  refine wh_one 4 (by kernel_rfl) ?_
  refine wo_storeBox rfl rfl rfl rfl (HF.ev rfl) (HF.ev rfl) HS2.out 1 rfl (cells_lit [.int .i64 ((bestTo (dsOf ps) row ps.length).fTxg), .int .i64 ((bestTo (dsOf ps) row ps.length).fMeta.fRoot.fAt), .int .i64 ((bestTo (dsOf ps) row ps.length).fMeta.fRoot.fBirth), .int .i64 ((bestTo (dsOf ps) row ps.length).fMeta.fRoot.fSize), .int .i64 ((bestTo (dsOf ps) row ps.length).fMeta.fRoot.fSum), .int .i64 ((bestTo (dsOf ps) row ps.length).fMeta.fRoot.fLevel), .int .i64 ((bestTo (dsOf ps) row ps.length).fMeta.fDepth), .int .i64 ((bestTo (dsOf ps) row ps.length).fMeta.fMany)] rfl rfl) (by kernel_rfl) ?_
  clear HS HS2; intro w13 HS2; replace HS2 : Bx (St w0 ([boxA b3 8 42 (rV (bestTo (dsOf ps) row ps.length)), boxA b2 8 42 (rV (bestTo (dsOf ps) row ps.length)), boxA b1 1 34 (.agg #[.slice a0 ps.length c0])]) _) := ⟨HS2⟩
  have HS : Bx (St w0 ([boxA b3 8 42 (rV (bestTo (dsOf ps) row ps.length)), boxA b1 1 34 (.agg #[.slice a0 ps.length c0])]) _) := ⟨(HS2.out.erase 1)⟩; refine ⟨HS.out, ?_⟩
  refine wh_y 5 rfl (by kernel_rfl) (by kernel_rfl) (by kernel_rfl) (fun _ _ _ h => h) rfl HF rfl rfl (fun _ HS => (yl_assign rfl (HF.ev rfl))) HS.out ?_;clear HF a;intro a HF
  refine wh_done (by kernel_rfl) ?_
  replace HS := HS2; clear HS2
  refine ex_then ?_
  refine wp_ret ?_
  refine bp_ret2 HF Tryz.results55 (HF.resBox rfl (HS.out.box 1 rfl) (by kernel_rfl)) (HF.res rfl) ?_
  exact ⟨rfl, HS.out.bel⟩

theorem rootAtP_any (a0 : Option Addr) (c0 : Nat) (ps : List HD) (w0 : World) (hT : TabP w0) (hM : MaxP w0) (hE : ErrP w0) (hl : ps.length ≤ 1048576) (hf : ∀ k, (ps.getD k default).d.fits) (hR : Rd HD.cells 3 w0 a0 ps.length ps) (hP : ∀ k, k < ps.length → (ps.getD k default).reads w0) (q : Int) : Calls Tryz.prog 23 #[.agg #[.slice a0 ps.length c0], .int .i64 q] w0 fun e w' => e = .returned (.tuple #[rV ((rootAtF (dsOf ps) q).1), .bool (rootAtF (dsOf ps) q).2]) ∧ Below w0.heap.size w0 w' := by
 have HT := Bx.mk hT; have HM := Bx.mk hM; have HE := Bx.mk hE; have HR := Bx.mk hR; have HP := Bx.mk hP; clear hT hM hE hR hP
 have HS := Bx.mk (St.start w0)
 refine wc_enter Tryz.func23 rfl Tryz.ntmps23 [(0, .agg #[.slice a0 ps.length c0]), (1, .int .i64 q)] ⟨rfl, rfl, trivial⟩ rfl ?_; intro a HF
 refine wp_sr ?_
 refine wl_box rfl HF rfl (HF.ev rfl) (Z := [.slice a0 ps.length c0]) rfl rfl rfl rfl HS.out ?_; clear HF HS a; intro a w1 b1 HF HS; replace HS := Bx.mk HS
 refine wl_alloc rfl HF rfl rfl rfl (Z := [.int .i64 0, .int .i64 0, .int .i64 0, .int .i64 0, .int .i64 0, .int .i64 0, .int .i64 0, .int .i64 0]) (by kernel_rfl) rfl HS.out ?_; clear HF HS a; intro a w2 b2 HF HS; replace HS := Bx.mk HS
 refine wl_as HF rfl rfl rfl rfl rfl ?_;clear HF a;intro a HF
 refine wl_ne ?_
 refine wp_seq ?_
 refine wp_sr ?_
 refine wl_y rfl HF rfl rfl (yl_loadR (cs := [.slice a0 ps.length c0]) rfl (HF.ev rfl) ((HS.out.box 1 rfl).sub 0 1) (by kernel_rfl)) ?_;clear HF a;intro a HF
 refine wl_callB rfl HF rfl (enter_of Tryz.func35 (by kernel_rfl) rfl) (args := #[.agg #[.slice a0 ps.length c0]]) rfl (v := .bool (okR (dsOf ps))) (implRaidOk_any a0 c0 ps _ (by omega) hf (HR.out.below HS.out.bel) (fun k hk => (HP.out k hk).below HS.out.bel)) rfl rfl HS.out ?_; clear HF HS a; intro w3 a HS HF; replace HS := Bx.mk HS
 refine wl_y rfl HF rfl rfl (yl_not rfl (HF.ev rfl)) ?_;clear HF a;intro a HF
 refine wl_mv HF rfl rfl rfl rfl rfl ?_;clear HF a;intro a HF
 refine HF.cases 9 rfl (fun cc1 HF1 => ?_) (fun cc1 HF1 => ?_)
 ·clear HF; have HF := HF1; clear HF1
  refine wl_skip HF rfl rfl rfl rfl rfl rfl ?_;clear HF a;intro a HF
  refine wl_skip HF rfl rfl rfl rfl rfl rfl ?_;clear HF a;intro a HF
  refine wl_skip HF rfl rfl rfl rfl rfl rfl ?_;clear HF a;intro a HF
  refine wl_y rfl HF rfl rfl (yl_pick_t rfl (HF.ev rfl) (HF.ev rfl)) ?_;clear HF a;intro a HF
  refine wl_ne ?_
  refine wc_true HF rfl ?_
  refine wp_sr ?_
  refine wl_y rfl HF rfl rfl (yl_build HF rfl (ps := []) rfl (cs := #[.int .i64 0, .int .i64 0, .int .i64 0, .int .i64 0, .int .i64 0, .int .i64 0, .int .i64 0, .int .i64 0]) (by kernel_rfl)) ?_;clear HF a;intro a HF
  refine wl_storeBox rfl HF rfl rfl (HF.ev rfl) (HF.ev rfl) HS.out 0 rfl (cells_lit [.int .i64 0, .int .i64 0, .int .i64 0, .int .i64 0, .int .i64 0, .int .i64 0, .int .i64 0, .int .i64 0] rfl rfl) (by kernel_rfl) ?_; clear HS; intro w4 HS; replace HS := Bx.mk HS
  have HS : Bx (St w0 ([boxA b2 8 42 (rZ), boxA b1 1 34 (.agg #[.slice a0 ps.length c0])]) _) := HS
  refine wl_as HF rfl rfl rfl rfl rfl ?_;clear HF a;intro a HF
  refine wl_ne ?_
  refine wp_ret ?_
  refine ex_then_ret ?_
  refine bp_ret2 HF Tryz.results23 (HF.resBox rfl (HS.out.box 0 rfl) (by kernel_rfl)) (HF.res rfl) ?_
  exact ⟨by unfold rootAtF; rw [if_neg (fun h => by have := h.1; simp [this] at cc1)]; rfl, HS.out.bel⟩
 ·clear HF; have HF := HF1; clear HF1
  refine wl_yg HF rfl rfl rfl rfl rfl (yl_move rfl (HF.ev rfl)) ?_;clear HF a;intro a HF
  refine wl_callBg HF rfl rfl rfl rfl (enter_of Tryz.func52 (by kernel_rfl) rfl) (args := #[.int .i64 q, .int .i64 0, .int .i64 3]) rfl (v := .bool (inB q 0 3)) (((within_any q 0 3 _).mono fun _ _ h => ⟨h.1, h.2 ▸ Below.refl _ _⟩)) rfl rfl HS.out ?_; clear HF HS a; intro w5 a HS HF; replace HS := Bx.mk HS
  refine wl_yg HF rfl rfl rfl rfl rfl (yl_not rfl (HF.ev rfl)) ?_;clear HF a;intro a HF
  refine wl_y rfl HF rfl rfl (yl_pick_f rfl (HF.ev rfl) (HF.ev rfl)) ?_;clear HF a;intro a HF
  refine wl_ne ?_
  refine HF.cases 13 rfl (fun cc2 HF1 => ?_) (fun cc2 HF1 => ?_)
  ·clear HF; have HF := HF1; clear HF1
   refine wc_true HF rfl ?_
   refine wp_sr ?_
   refine wl_y rfl HF rfl rfl (yl_build HF rfl (ps := []) rfl (cs := #[.int .i64 0, .int .i64 0, .int .i64 0, .int .i64 0, .int .i64 0, .int .i64 0, .int .i64 0, .int .i64 0]) (by kernel_rfl)) ?_;clear HF a;intro a HF
   refine wl_storeBox rfl HF rfl rfl (HF.ev rfl) (HF.ev rfl) HS.out 0 rfl (cells_lit [.int .i64 0, .int .i64 0, .int .i64 0, .int .i64 0, .int .i64 0, .int .i64 0, .int .i64 0, .int .i64 0] rfl rfl) (by kernel_rfl) ?_; clear HS; intro w6 HS; replace HS := Bx.mk HS
   have HS : Bx (St w0 ([boxA b2 8 42 (rZ), boxA b1 1 34 (.agg #[.slice a0 ps.length c0])]) _) := HS
   refine wl_as HF rfl rfl rfl rfl rfl ?_;clear HF a;intro a HF
   refine wl_ne ?_
   refine wp_ret ?_
   refine ex_then_ret ?_
   refine bp_ret2 HF Tryz.results23 (HF.resBox rfl (HS.out.box 0 rfl) (by kernel_rfl)) (HF.res rfl) ?_
   exact ⟨by unfold rootAtF; rw [if_neg (fun h => by have := h.2; simp [this] at cc2)]; rfl, HS.out.bel⟩
  ·clear HF; have HF := HF1; clear HF1
   refine wc_false HF rfl ?_
   refine wp_skip ?_
   refine ex_then ?_
   refine wp_seq ?_
   have hok : okR (dsOf ps) = true := by simpa using cc1
   have h3 := okR_three hok
   have hin : inB q 0 3 = true := by simpa using cc2
   have hqb := inB_true hin; obtain ⟨row, rfl⟩ : ∃ row : Nat, q = (row : Int) := ⟨q.toNat, by omega⟩
   refine wp_region_lit ?_
   refine wl_y rfl HF rfl rfl (yl_loadR (cs := [.slice a0 ps.length c0]) rfl (HF.ev rfl) ((HS.out.box 1 rfl).sub 0 1) (by kernel_rfl)) ?_;clear HF a;intro a HF
   refine wl_mv HF rfl rfl rfl rfl rfl ?_;clear HF a;intro a HF
   refine wl_callB rfl HF rfl (enter_of Tryz.func55 (by kernel_rfl) rfl) (args := #[.agg #[.slice a0 ps.length c0], .int .i64 (row : Int)]) rfl (v := .tuple #[(rV (bestTo (dsOf ps) row ps.length)), .bool (decide (0 < (bestTo (dsOf ps) row ps.length).fTxg))]) (rootAt_any a0 c0 ps _ (HT.out.below HS.out.bel) (HM.out.below HS.out.bel) (HE.out.below HS.out.bel) h3.1 h3.2 (HR.out.below HS.out.bel) (fun k hk => (HP.out k hk).below HS.out.bel) row (by omega)) rfl rfl HS.out ?_; clear HF HS a; intro w7 a HS HF; replace HS := Bx.mk HS
   refine wl_y rfl HF rfl rfl (yl_extract rfl (HF.ev rfl) rfl) ?_;clear HF a;intro a HF
   refine wl_y rfl HF rfl rfl (yl_extract rfl (HF.ev rfl) rfl) ?_;clear HF a;intro a HF
   refine wl_storeBox rfl HF rfl rfl (HF.ev rfl) (HF.ev rfl) HS.out 0 rfl (cells_lit [.int .i64 ((bestTo (dsOf ps) row ps.length).fTxg), .int .i64 ((bestTo (dsOf ps) row ps.length).fMeta.fRoot.fAt), .int .i64 ((bestTo (dsOf ps) row ps.length).fMeta.fRoot.fBirth), .int .i64 ((bestTo (dsOf ps) row ps.length).fMeta.fRoot.fSize), .int .i64 ((bestTo (dsOf ps) row ps.length).fMeta.fRoot.fSum), .int .i64 ((bestTo (dsOf ps) row ps.length).fMeta.fRoot.fLevel), .int .i64 ((bestTo (dsOf ps) row ps.length).fMeta.fDepth), .int .i64 ((bestTo (dsOf ps) row ps.length).fMeta.fMany)] rfl rfl) (by kernel_rfl) ?_; clear HS; intro w8 HS; replace HS := Bx.mk HS
   have HS : Bx (St w0 ([boxA b2 8 42 (rV (bestTo (dsOf ps) row ps.length)), boxA b1 1 34 (.agg #[.slice a0 ps.length c0])]) _) := HS
   refine wl_as HF rfl rfl rfl rfl rfl ?_;clear HF a;intro a HF
   refine wl_ne ?_
   refine wp_ret ?_
   refine bp_ret2 HF Tryz.results23 (HF.resBox rfl (HS.out.box 0 rfl) (by kernel_rfl)) (HF.res rfl) ?_
   exact ⟨by unfold rootAtF; rw [if_pos ⟨hok, hin⟩, dsOf_len, Int.toNat_natCast]; rfl, HS.out.bel⟩

end Go.Proofs.YtoaopmkbfifhaaaGreatDoor
