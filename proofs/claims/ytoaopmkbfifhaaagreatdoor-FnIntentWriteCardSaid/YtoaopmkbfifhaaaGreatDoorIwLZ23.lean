/- A part of the proof in YtoaopmkbfifhaaaGreatDoorIwLZ29. -/
import Derived.Shelf.Strconv.Clone
import Derived.Shelf.Strings.Cut
import Derived.Test.YtoaopmkbfifhaaaGreatDoorIwLZ22
/- Cut and Clone: laid at this dump. -/
namespace Go.Proofs.YtoaopmkbfifhaaaGreatDoor
set_option linter.unusedVariables false
set_option linter.unusedSimpArgs false
set_option maxHeartbeats 1000000
set_option maxRecDepth 100000
open Go.Shelf

def layCut_ren : Go.Shelf.Ren := ⟨fun | 145 => 165 | 217 => 209 | 219 => 192 | 220 => 177 | 224 => 211 | 225 => 210 | 266 => 220 | 267 => 212 | 314 => 221 | n => n, fun | 3 => 3 | 4 => 4 | 5 => 5 | 9 => 9 | 46 => 228 | 51 => 226 | 59 => 194 | 146 => 243 | n => n, fun | 1 => 1 | n => n⟩
theorem layCut : Go.Proofs.Lays.n145 Tryz.prog layCut_ren := {
  mixed := by kernel_rfl
  f145 := Tryz.func165.trans (congrArg some (by kernel_rfl))
  f217 := Tryz.func209.trans (congrArg some (by kernel_rfl))
  f219 := Tryz.func192.trans (congrArg some (by kernel_rfl))
  f220 := Tryz.func177.trans (congrArg some (by kernel_rfl))
  f224 := Tryz.func211.trans (congrArg some (by kernel_rfl))
  f225 := Tryz.func210.trans (congrArg some (by kernel_rfl))
  f266 := Tryz.func220.trans (congrArg some (by kernel_rfl))
  f267 := Tryz.func212.trans (congrArg some (by kernel_rfl))
  f314 := Tryz.func221.trans (congrArg some (by kernel_rfl))
  t3 := Tryz.underlying3
  a3 := Tryz.isAgg3
  z3 := Tryz.sizeOf3
  v3 := Tryz.zeroValue3
  t4 := Tryz.underlying4
  a4 := Tryz.isAgg4
  z4 := Tryz.sizeOf4
  v4 := Tryz.zeroValue4
  t5 := Tryz.underlying5
  a5 := Tryz.isAgg5
  z5 := Tryz.sizeOf5
  v5 := Tryz.zeroValue5
  t9 := Tryz.underlying9
  a9 := Tryz.isAgg9
  z9 := Tryz.sizeOf9
  v9 := Tryz.zeroValue9
  t46 := Tryz.underlying228
  a46 := Tryz.isAgg228
  z46 := Tryz.sizeOf228
  v46 := Tryz.zeroValue228
  t51 := Tryz.underlying226
  a51 := Tryz.isAgg226
  z51 := Tryz.sizeOf226
  v51 := Tryz.zeroValue226
  t59 := Tryz.underlying194
  a59 := Tryz.isAgg194
  z59 := Tryz.sizeOf194
  v59 := Tryz.zeroValue194
  t146 := Tryz.underlying243
  a146 := Tryz.isAgg243
  z146 := Tryz.sizeOf243
  v146 := Tryz.zeroValue243
  g1 := by kernel_rfl }
def layClone_ren : Go.Shelf.Ren := ⟨fun | 316 => 178 | n => n, fun | 0 => 0 | 3 => 3 | 4 => 4 | 5 => 5 | 9 => 9 | 37 => 58 | 127 => 199 | n => n, fun | n => n⟩
theorem layClone : Go.Proofs.LaysM.n316 Tryz.prog layClone_ren := {
  mixed := by kernel_rfl
  f316 := Tryz.func178.trans (congrArg some (by kernel_rfl))
  t0 := Tryz.underlying0
  a0 := Tryz.isAgg0
  z0 := Tryz.sizeOf0
  v0 := Tryz.zeroValue0
  t3 := Tryz.underlying3
  a3 := Tryz.isAgg3
  z3 := Tryz.sizeOf3
  v3 := Tryz.zeroValue3
  t4 := Tryz.underlying4
  a4 := Tryz.isAgg4
  z4 := Tryz.sizeOf4
  v4 := Tryz.zeroValue4
  t9 := Tryz.underlying9
  a9 := Tryz.isAgg9
  z9 := Tryz.sizeOf9
  v9 := Tryz.zeroValue9
  t37 := Tryz.underlying58
  a37 := Tryz.isAgg58
  z37 := Tryz.sizeOf58
  v37 := Tryz.zeroValue58
  t127 := Tryz.underlying199
  a127 := Tryz.isAgg199
  z127 := Tryz.sizeOf199
  v127 := Tryz.zeroValue199
  t5 := Tryz.underlying5
  a5 := Tryz.isAgg5
  z5 := Tryz.sizeOf5
  v5 := Tryz.zeroValue5
  i0 := by kernel_rfl
  i3 := by kernel_rfl
  i4 := by kernel_rfl
  i5 := by kernel_rfl
  i9 := by kernel_rfl
  i37 := by kernel_rfl
  i127 := by kernel_rfl }
end Go.Proofs.YtoaopmkbfifhaaaGreatDoor

/- Records read: walked. -/
namespace Go.Proofs.YtoaopmkbfifhaaaGreatDoor
set_option linter.unusedVariables false
set_option linter.unusedSimpArgs false
set_option maxHeartbeats 1000000
set_option maxRecDepth 100000
open Go.RowKit

/-- A text cut at its first ':'. -/
theorem cut_any (s : ByteArray) (w : World) (hM : MaxP w) (hs : s.size ≤ 4294967280) : Calls Tryz.prog 165 #[.string s, .string ⟨#[58]⟩] w fun e w' => ((58 : UInt8) ∉ s.data.toList ∧ (∃ b a : ByteArray, e = .returned (.tuple #[.string b, .string a, .bool false])) ∧ Below w.heap.size w w') ∨ (∃ num tail : ByteArray, s.data.toList = num.data.toList ++ 58 :: tail.data.toList ∧ (58 : UInt8) ∉ num.data.toList ∧ e = .returned (.tuple #[.string num, .string tail, .bool true]) ∧ Below w.heap.size w w') := by
  obtain ⟨m, hm⟩ := hM
  refine (Any.strings_Cut layCut s ⟨#[58]⟩ m w (by omega) hm).mono ?_
  rintro e w' ⟨rfl, n, rfl⟩
  rcases cut_split 58 s.data.toList with ⟨h1, h2⟩ | ⟨d, t, h1, h2, h3⟩
  · refine .inl ⟨h1, ⟨⟨(Go.Lib.cut s.data.toList [58]).1.toArray⟩, ⟨(Go.Lib.cut s.data.toList [58]).2.1.toArray⟩, ?_⟩, below_drewN _ _ _⟩
    show Ending.returned (.tuple #[_, _, .bool (Go.Lib.cut s.data.toList [58]).2.2]) = _
    rw [h2]
  · refine .inr ⟨⟨d.toArray⟩, ⟨t.toArray⟩, h1, h2, ?_, below_drewN _ _ _⟩
    show Ending.returned (.tuple #[.string ⟨(Go.Lib.cut s.data.toList [58]).1.toArray⟩, .string ⟨(Go.Lib.cut s.data.toList [58]).2.1.toArray⟩, .bool (Go.Lib.cut s.data.toList [58]).2.2]) = _
    rw [h3]

theorem clone_text (s : ByteArray) (w0 : World) (hs : s.size ≤ 281474976710656) : Calls Tryz.prog 166 #[.string s] w0 fun e w' => e = .returned (.string s) ∧ Below w0.heap.size w0 w' := by
 have HS := Bx.mk (St.start w0)
 refine wc_enter Tryz.func166 rfl Tryz.ntmps166 [(0, .string s)] ⟨rfl, trivial⟩ rfl ?_; intro a HF
 refine wp_sr ?_
 refine za HF ?_;clear HF a;intro a HF
 refine wl_ne ?_
 refine wp_sr ?_
 refine zm HF ?_;clear HF a;intro a HF
 refine wl_callB rfl HF rfl (enter_of Tryz.func178 (by kernel_rfl) rfl) (args := #[.string s]) rfl (v := .string s) (Any.stringslite_Clone layClone s _ (by omega)) rfl rfl HS.out ?_; clear HF HS a; intro w1 a HS HF; replace HS := Bx.mk HS
 refine za HF ?_;clear HF a;intro a HF
 refine wl_ne ?_
 refine wp_ret ?_
 refine bp_ret1 HF Tryz.results166 (HF.res rfl) ?_
 exact ⟨rfl, HS.out.bel⟩

theorem fieldsGet_any (s : ByteArray) (w0 : World) (hT : TabP w0) (hM : MaxP w0) (hE : ErrP w0) (hs : s.size ≤ 9223372036854775807) : Calls Tryz.prog 142 #[.string s] w0 fun e w' => (∃ xs, IsRec s xs ∧ s.size ≤ 2048 ∧ ∃ ao cp, e = .returned (.tuple #[.slice ao xs.length cp, .bool true]) ∧ St w0 [rowA encS 1 9 (.slice ao xs.length cp) xs] w') ∨ ((∀ l, IsRec s l → s.size ≤ 2048 → False) ∧ e = .returned (.tuple #[.slice none 0 0, .bool false]) ∧ Below w0.heap.size w0 w') := by
 have HT := Bx.mk hT; have HM := Bx.mk hM; have HE := Bx.mk hE; clear hT hM hE
 have HS := Bx.mk (St.start w0)
 refine wc_enter Tryz.func142 rfl Tryz.ntmps142 [(0, .string s)] ⟨rfl, trivial⟩ rfl ?_; intro a HF
 refine wp_sr ?_
 refine za HF ?_;clear HF a;intro a HF
 refine za HF ?_;clear HF a;intro a HF
 refine wl_ne ?_
 refine wp_seq ?_
 refine wp_sr ?_
 refine zm HF ?_;clear HF a;intro a HF
 refine zy HF (yl_lenS rfl (HF.ev rfl) (by kernel_rfl)) ?_;clear HF a;intro a HF
 refine zy HF (yl_gtrI rfl (HF.ev rfl) (HF.ev rfl)) ?_;clear HF a;intro a HF
 refine wl_ne ?_
 refine HF.cases 13 rfl (fun cc1 _ => ?_) fun cc1 _ => ?_
 ·clear HF;rename_i HF
  have dcc1 := of_decide_eq_true cc1
  refine wc_true HF rfl ?_
  refine wp_sr ?_
  refine za HF ?_;clear HF a;intro a HF
  refine za HF ?_;clear HF a;intro a HF
  refine wl_ne ?_
  refine wp_ret ?_
  refine ex_then_ret ?_
  refine bp_ret2 HF Tryz.results142 (HF.res rfl) (HF.res rfl) ?_
  exact .inr ⟨fun l h h2 => absurd h2 (by omega), rfl, HS.out.bel⟩
 ·clear HF;rename_i HF
  have dcc1 := of_decide_eq_false cc1
  refine wc_false HF rfl ?_
  refine wp_skip ?_
  refine ex_then ?_
  refine wp_seq ?_
  have hsz : s.size ≤ 2048 := by omega
  refine wp_region_lit ?_
  refine za HF ?_;clear HF a;intro a HF
  refine wl_ne ?_
  refine wp_seq ?_
  refine wp_sr ?_
  refine zm HF ?_;clear HF a;intro a HF
  refine za HF ?_;clear HF a;intro a HF
  refine wl_ne ?_
  refine wp_block ?_
  replace HS := Bx.mk (HS.out.nilRow encS 1 9 none)
  refine wc_loop (ι := Nat) (fun k a w => ∃ (ao : Option Addr) (cp : Nat) (xs : List ByteArray) (rest : ByteArray), (k = rest.size ∧ RdTo s xs rest ∧ xs.length ≤ 60) ∧ Fr 56 a [(0, .string s), (4, .slice ao xs.length cp), (5, .string rest)] ∧ St w0 ([rowA encS 1 9 (.slice ao xs.length cp) xs]) w) (fun k => k) s.size ⟨_, _, [], s, ⟨rfl, RdTo.zero s, Nat.zero_le _⟩, HF.less _ ⟨rfl, rfl, rfl, trivial⟩, HS.out⟩ ?_
  clear HF HS; clear a
  rintro k a w1 ⟨ao, cp, xs, rest, ⟨hkr, hto, hxl⟩, HF, HS⟩
  replace HS := Bx.mk HS
  have hrs := hto.size
  refine wp_seq ?_
  refine wp_sr ?_
  refine zm HF ?_;clear HF a;intro a HF
  refine zy HF (yl_neqS rfl (HF.ev rfl) (HF.ev rfl)) ?_;clear HF a;intro a HF
  refine wl_ne ?_
  refine HF.cases 16 rfl (fun cc2 _ => ?_) fun cc2 _ => ?_
  ·clear HF;rename_i HF
   have hre : (rest.toList == (⟨#[]⟩ : ByteArray).toList) = false := by simpa using cc2
   refine wc_true HF rfl ?_
   refine wp_skip ?_
   refine ex_then ?_
   refine wp_block ?_
   refine wp_sr ?_
   refine zm HF ?_;clear HF a;intro a HF
   refine wl_call rfl HF rfl (enter_of Tryz.func165 (by kernel_rfl) rfl) (args := #[.string rest, .string (⟨#[58]⟩ : ByteArray)]) rfl (cut_any rest _ (HM.out.below HS.out.bel) (by omega)) rfl rfl ?_
   rintro _ w2 (⟨h58, ⟨cb, ca, rfl⟩, hb⟩ | ⟨num, tail, hcut, h58, rfl, hb⟩)
   ·skip
    refine ⟨_, rfl, ?_⟩; replace HS := Bx.mk (HS.out.later hb);clear hb HF a;intro a HF
    refine zm HF ?_;clear HF a;intro a HF
    refine zy HF (yl_extract rfl (HF.ev rfl) rfl) ?_;clear HF a;intro a HF
    refine zy HF (yl_extract rfl (HF.ev rfl) rfl) ?_;clear HF a;intro a HF
    refine zy HF (yl_extract rfl (HF.ev rfl) rfl) ?_;clear HF a;intro a HF
    refine za HF ?_;clear HF a;intro a HF
    refine za HF ?_;clear HF a;intro a HF
    refine za HF ?_;clear HF a;intro a HF
    refine wl_ne ?_
    refine wp_sr ?_
    refine zm HF ?_;clear HF a;intro a HF
    refine wl_call rfl HF rfl (enter_of Tryz.func143 (by kernel_rfl) rfl) (args := #[.string cb]) rfl (implNumGet_any cb _ (HT.out.below HS.out.bel) (HE.out.below HS.out.bel)) rfl rfl ?_
    rintro _ w3 (⟨n, hng, rfl, hb⟩ | ⟨hng, rfl, hb⟩)
    ·skip
     refine ⟨_, rfl, ?_⟩; replace HS := Bx.mk (HS.out.later hb);clear hb HF a;intro a HF
     refine zm HF ?_;clear HF a;intro a HF
     refine zy HF (yl_extract rfl (HF.ev rfl) rfl) ?_;clear HF a;intro a HF
     refine zy HF (yl_extract rfl (HF.ev rfl) rfl) ?_;clear HF a;intro a HF
     refine za HF ?_;clear HF a;intro a HF
     refine za HF ?_;clear HF a;intro a HF
     refine wl_ne ?_
     refine wp_seq ?_
     refine wp_sr ?_
     refine zm HF ?_;clear HF a;intro a HF
     refine zy HF (yl_not rfl (HF.ev rfl)) ?_;clear HF a;intro a HF
     refine zm HF ?_;clear HF a;intro a HF
     refine zk HF ?_;clear HF a;intro a HF
     refine zk HF ?_;clear HF a;intro a HF
     refine zy HF (yl_pick_t rfl (HF.ev rfl) (HF.ev rfl)) ?_;clear HF a;intro a HF
     refine zm HF ?_;clear HF a;intro a HF
     refine zk HF ?_;clear HF a;intro a HF
     refine zk HF ?_;clear HF a;intro a HF
     refine zk HF ?_;clear HF a;intro a HF
     refine zk HF ?_;clear HF a;intro a HF
     refine zy HF (yl_pick_t rfl (HF.ev rfl) (HF.ev rfl)) ?_;clear HF a;intro a HF
     refine zm HF ?_;clear HF a;intro a HF
     refine zk HF ?_;clear HF a;intro a HF
     refine zk HF ?_;clear HF a;intro a HF
     refine zk HF ?_;clear HF a;intro a HF
     refine zy HF (yl_pick_t rfl (HF.ev rfl) (HF.ev rfl)) ?_;clear HF a;intro a HF
     refine wl_ne ?_
     refine wc_true HF rfl ?_
     refine wp_sr ?_
     refine za HF ?_;clear HF a;intro a HF
     refine za HF ?_;clear HF a;intro a HF
     refine wl_ne ?_
     refine wp_ret ?_
     refine ex_then_ret ?_
     refine ex_block_ret ?_
     refine ex_then_ret ?_
     refine ex_block_ret ?_
     refine ex_then_ret ?_
     refine bp_ret2 HF Tryz.results142 (HF.res rfl) (HF.res rfl) ?_
     refine .inr ⟨fun l h h2 => ?_, rfl, HS.out.bel⟩
     obtain ⟨y, ws, e1, e2, e3, e4⟩ := hto.go h.is h2 h.many hre
     exact h58 (by rw [e2]; simp)
    ·skip
     refine ⟨_, rfl, ?_⟩; replace HS := Bx.mk (HS.out.later hb);clear hb HF a;intro a HF
     refine zm HF ?_;clear HF a;intro a HF
     refine zy HF (yl_extract rfl (HF.ev rfl) rfl) ?_;clear HF a;intro a HF
     refine zy HF (yl_extract rfl (HF.ev rfl) rfl) ?_;clear HF a;intro a HF
     refine za HF ?_;clear HF a;intro a HF
     refine za HF ?_;clear HF a;intro a HF
     refine wl_ne ?_
     refine wp_seq ?_
     refine wp_sr ?_
     refine zm HF ?_;clear HF a;intro a HF
     refine zy HF (yl_not rfl (HF.ev rfl)) ?_;clear HF a;intro a HF
     refine zm HF ?_;clear HF a;intro a HF
     refine zk HF ?_;clear HF a;intro a HF
     refine zk HF ?_;clear HF a;intro a HF
     refine zy HF (yl_pick_t rfl (HF.ev rfl) (HF.ev rfl)) ?_;clear HF a;intro a HF
     refine zm HF ?_;clear HF a;intro a HF
     refine zk HF ?_;clear HF a;intro a HF
     refine zk HF ?_;clear HF a;intro a HF
     refine zk HF ?_;clear HF a;intro a HF
     refine zk HF ?_;clear HF a;intro a HF
     refine zy HF (yl_pick_t rfl (HF.ev rfl) (HF.ev rfl)) ?_;clear HF a;intro a HF
     refine zm HF ?_;clear HF a;intro a HF
     refine zk HF ?_;clear HF a;intro a HF
     refine zk HF ?_;clear HF a;intro a HF
     refine zk HF ?_;clear HF a;intro a HF
     refine zy HF (yl_pick_t rfl (HF.ev rfl) (HF.ev rfl)) ?_;clear HF a;intro a HF
     refine wl_ne ?_
     refine wc_true HF rfl ?_
     refine wp_sr ?_
     refine za HF ?_;clear HF a;intro a HF
     refine za HF ?_;clear HF a;intro a HF
     refine wl_ne ?_
     refine wp_ret ?_
     refine ex_then_ret ?_
     refine ex_block_ret ?_
     refine ex_then_ret ?_
     refine ex_block_ret ?_
     refine ex_then_ret ?_
     refine bp_ret2 HF Tryz.results142 (HF.res rfl) (HF.res rfl) ?_
     refine .inr ⟨fun l h h2 => ?_, rfl, HS.out.bel⟩
     obtain ⟨y, ws, e1, e2, e3, e4⟩ := hto.go h.is h2 h.many hre
     exact h58 (by rw [e2]; simp)
   ·skip
    refine ⟨_, rfl, ?_⟩; replace HS := Bx.mk (HS.out.later hb);clear hb HF a;intro a HF
    have htl : tail.size ≤ 2048 := by have h1 := congrArg List.length hcut; rw [List.length_append, List.length_cons] at h1; have h2 := size_list rest; have h3 := size_list tail; have h4 := hto.size; omega
    refine zm HF ?_;clear HF a;intro a HF
    refine zy HF (yl_extract rfl (HF.ev rfl) rfl) ?_;clear HF a;intro a HF
    refine zy HF (yl_extract rfl (HF.ev rfl) rfl) ?_;clear HF a;intro a HF
    refine zy HF (yl_extract rfl (HF.ev rfl) rfl) ?_;clear HF a;intro a HF
    refine za HF ?_;clear HF a;intro a HF
    refine za HF ?_;clear HF a;intro a HF
    refine za HF ?_;clear HF a;intro a HF
    refine wl_ne ?_
    refine wp_sr ?_
    refine zm HF ?_;clear HF a;intro a HF
    refine wl_call rfl HF rfl (enter_of Tryz.func143 (by kernel_rfl) rfl) (args := #[.string num]) rfl (implNumGet_any num _ (HT.out.below HS.out.bel) (HE.out.below HS.out.bel)) rfl rfl ?_
    rintro _ w4 (⟨n, hng, rfl, hb⟩ | ⟨hng, rfl, hb⟩)
    ·skip
     refine ⟨_, rfl, ?_⟩; replace HS := Bx.mk (HS.out.later hb);clear hb HF a;intro a HF
     refine zm HF ?_;clear HF a;intro a HF
     refine zy HF (yl_extract rfl (HF.ev rfl) rfl) ?_;clear HF a;intro a HF
     refine zy HF (yl_extract rfl (HF.ev rfl) rfl) ?_;clear HF a;intro a HF
     refine za HF ?_;clear HF a;intro a HF
     refine za HF ?_;clear HF a;intro a HF
     refine wl_ne ?_
     refine wp_seq ?_
     refine wp_sr ?_
     refine zm HF ?_;clear HF a;intro a HF
     refine zy HF (yl_not rfl (HF.ev rfl)) ?_;clear HF a;intro a HF
     refine zm HF ?_;clear HF a;intro a HF
     refine zg HF (yl_move rfl (HF.ev rfl)) ?_;clear HF a;intro a HF
     refine zg HF (yl_not rfl (HF.ev rfl)) ?_;clear HF a;intro a HF
     refine zy HF (yl_pick_f rfl (HF.ev rfl) (HF.ev rfl)) ?_;clear HF a;intro a HF
     refine zm HF ?_;clear HF a;intro a HF
     refine zg HF (yl_move rfl (HF.ev rfl)) ?_;clear HF a;intro a HF
     refine zg HF (yl_move rfl (HF.ev rfl)) ?_;clear HF a;intro a HF
     refine zg HF (yl_lenS rfl (HF.ev rfl) (by kernel_rfl)) ?_;clear HF a;intro a HF
     refine zg HF (yl_gtrI rfl (HF.ev rfl) (HF.ev rfl)) ?_;clear HF a;intro a HF
     refine zy HF (yl_pick_f rfl (HF.ev rfl) (HF.ev rfl)) ?_;clear HF a;intro a HF
     refine zm HF ?_;clear HF a;intro a HF
     refine HF.cases 40 rfl (fun cc3 _ => ?_) fun cc3 _ => ?_
     ·clear HF;rename_i HF
      have dcc3 := of_decide_eq_true cc3
      refine zk HF ?_;clear HF a;intro a HF
      refine zk HF ?_;clear HF a;intro a HF
      refine zk HF ?_;clear HF a;intro a HF
      refine zy HF (yl_pick_t rfl (HF.ev rfl) (HF.ev rfl)) ?_;clear HF a;intro a HF
      refine wl_ne ?_
      refine wc_true HF rfl ?_
      refine wp_sr ?_
      refine za HF ?_;clear HF a;intro a HF
      refine za HF ?_;clear HF a;intro a HF
      refine wl_ne ?_
      refine wp_ret ?_
      refine ex_then_ret ?_
      refine ex_block_ret ?_
      refine ex_then_ret ?_
      refine ex_block_ret ?_
      refine ex_then_ret ?_
      refine bp_ret2 HF Tryz.results142 (HF.res rfl) (HF.res rfl) ?_
      refine .inr ⟨fun l h h2 => ?_, rfl, HS.out.bel⟩
      obtain ⟨y, ws, e1, e2, e3, e4⟩ := hto.go h.is h2 h.many hre
      have e5 := app_58 (dec_no58 y.size) h58 (e2.symm.trans hcut)
      rw [ba_ext e5.1] at e3; have e6 := Option.some.inj (e3.symm.trans hng); have e7 := congrArg List.length e5.2; rw [List.length_append] at e7; have e8 := size_list y; have e9 := size_list tail; omega
     ·clear HF;rename_i HF
      have dcc3 := of_decide_eq_false cc3
      refine zg HF (yl_move rfl (HF.ev rfl)) ?_;clear HF a;intro a HF
      refine zg HF (yl_lenL (e := 9) (size := 1) rfl (HF.ev rfl) (by kernel_rfl)) ?_;clear HF a;intro a HF
      refine zg HF (yl_eqlI rfl (HF.ev rfl) (HF.ev rfl)) ?_;clear HF a;intro a HF
      refine zy HF (yl_pick_f rfl (HF.ev rfl) (HF.ev rfl)) ?_;clear HF a;intro a HF
      refine wl_ne ?_
      refine HF.cases 44 rfl (fun cc4 _ => ?_) fun cc4 _ => ?_
      ·clear HF;rename_i HF
       have dcc4 := eq_of_beq cc4
       refine wc_true HF rfl ?_
       refine wp_sr ?_
       refine za HF ?_;clear HF a;intro a HF
       refine za HF ?_;clear HF a;intro a HF
       refine wl_ne ?_
       refine wp_ret ?_
       refine ex_then_ret ?_
       refine ex_block_ret ?_
       refine ex_then_ret ?_
       refine ex_block_ret ?_
       refine ex_then_ret ?_
       refine bp_ret2 HF Tryz.results142 (HF.res rfl) (HF.res rfl) ?_
       refine .inr ⟨fun l h h2 => ?_, rfl, HS.out.bel⟩
       obtain ⟨y, ws, e1, e2, e3, e4⟩ := hto.go h.is h2 h.many hre
       have e5 := app_58 (dec_no58 y.size) h58 (e2.symm.trans hcut)
       rw [ba_ext e5.1] at e3; have e6 := Option.some.inj (e3.symm.trans hng); have e7 := congrArg List.length e5.2; rw [List.length_append] at e7; have e8 := size_list y; have e9 := size_list tail; omega
      ·clear HF;rename_i HF
       have dcc4 := ne_of_beq_false cc4
       refine wc_false HF rfl ?_
       refine wp_skip ?_
       refine ex_then ?_
       refine wp_sr ?_
       refine zm HF ?_;clear HF a;intro a HF
       refine zm HF ?_;clear HF a;intro a HF
       refine zm HF ?_;clear HF a;intro a HF
       refine zy HF (yl_sliceSh (k := n) rfl (HF.ev rfl) (HF.ev rfl) (by kernel_rfl) (by omega) (by omega)) ?_;clear HF a;intro a HF
       refine wl_callB rfl HF rfl (enter_of Tryz.func166 (by kernel_rfl) rfl) (args := #[.string (tail.extract 0 n)]) rfl (v := .string (tail.extract 0 n)) (clone_text (tail.extract 0 n) _ (by rw [ByteArray.size_extract]; omega)) rfl rfl HS.out ?_; clear HF HS a; intro w5 a HS HF; replace HS := Bx.mk HS
       refine wl_buildS (enc := encS) (e := 9) (size := 1) rfl HF rfl rfl rfl (ps := [(0, .string (tail.extract 0 n))]) rfl (cells := [.string (tail.extract 0 n)]) (by kernel_rfl) [tail.extract 0 n] rfl rfl (by unfold maxLen; omega) rfl HS.out ?_; clear HF HS a; intro b1 a w6 HF HS; replace HS := Bx.mk HS
       refine wl_appL rfl HF rfl rfl rfl (HF.ev rfl) (HF.ev rfl) elemS encS_len HS.out 1 (xs := xs) rfl (ys := [tail.extract 0 n]) (St.rdN HS.out encS_len 0 rfl) (cells_one_S _) (by unfold maxLen; (try simp only [List.length_append, List.length_cons, List.length_nil, List.nil_append, List.length_map]); omega) (by (try simp only [List.length_append, List.length_cons, List.length_nil, List.nil_append, List.length_map]); omega) ?_; clear HF HS a; intro ao2 cp3 w7 a HF HS; replace HS := Bx.mk HS
       try dsimp only [List.eraseIdx] at HS
       refine za HF ?_;clear HF a;intro a HF
       refine wl_ne ?_
       refine wp_region_lit ?_
       refine zm HF ?_;clear HF a;intro a HF
       refine zm HF ?_;clear HF a;intro a HF
       refine zy HF (yl_sliceSl (k := n) rfl (HF.ev rfl) (HF.ev rfl) (by kernel_rfl) (by omega) (by omega)) ?_;clear HF a;intro a HF
       refine za HF ?_;clear HF a;intro a HF
       refine wpList_nil ?_
       refine ex_block ?_
       refine ex_then ?_
       have hz : xs.length + ([tail.extract 0 n]).length = (xs ++ ([tail.extract 0 n])).length := (List.length_append ..).symm
       rw [hz] at HS HF
       have hto2 := hto.step hcut hng (by omega)
       have hlt : (tail.extract n tail.size).size < rest.size := by have h1 := congrArg List.length hcut; rw [List.length_append, List.length_cons] at h1; have h2 := size_list rest; have h3 := size_list tail; rw [ByteArray.size_extract]; omega
       replace HS:=Bx.mk (HS.out.pick 1 rfl)
       exact ⟨(tail.extract n tail.size).size, ⟨_, _, xs ++ ([tail.extract 0 n]), tail.extract n tail.size, ⟨rfl, hto2, by rw [List.length_append, List.length_cons, List.length_nil]; omega⟩, HF.less _ ⟨rfl, rfl, rfl, trivial⟩, (HS.out.erase 1)⟩, (by rw [hkr]; exact hlt)⟩
    ·skip
     refine ⟨_, rfl, ?_⟩; replace HS := Bx.mk (HS.out.later hb);clear hb HF a;intro a HF
     refine zm HF ?_;clear HF a;intro a HF
     refine zy HF (yl_extract rfl (HF.ev rfl) rfl) ?_;clear HF a;intro a HF
     refine zy HF (yl_extract rfl (HF.ev rfl) rfl) ?_;clear HF a;intro a HF
     refine za HF ?_;clear HF a;intro a HF
     refine za HF ?_;clear HF a;intro a HF
     refine wl_ne ?_
     refine wp_seq ?_
     refine wp_sr ?_
     refine zm HF ?_;clear HF a;intro a HF
     refine zy HF (yl_not rfl (HF.ev rfl)) ?_;clear HF a;intro a HF
     refine zm HF ?_;clear HF a;intro a HF
     refine zg HF (yl_move rfl (HF.ev rfl)) ?_;clear HF a;intro a HF
     refine zg HF (yl_not rfl (HF.ev rfl)) ?_;clear HF a;intro a HF
     refine zy HF (yl_pick_f rfl (HF.ev rfl) (HF.ev rfl)) ?_;clear HF a;intro a HF
     refine zm HF ?_;clear HF a;intro a HF
     refine zk HF ?_;clear HF a;intro a HF
     refine zk HF ?_;clear HF a;intro a HF
     refine zk HF ?_;clear HF a;intro a HF
     refine zk HF ?_;clear HF a;intro a HF
     refine zy HF (yl_pick_t rfl (HF.ev rfl) (HF.ev rfl)) ?_;clear HF a;intro a HF
     refine zm HF ?_;clear HF a;intro a HF
     refine zk HF ?_;clear HF a;intro a HF
     refine zk HF ?_;clear HF a;intro a HF
     refine zk HF ?_;clear HF a;intro a HF
     refine zy HF (yl_pick_t rfl (HF.ev rfl) (HF.ev rfl)) ?_;clear HF a;intro a HF
     refine wl_ne ?_
     refine wc_true HF rfl ?_
     refine wp_sr ?_
     refine za HF ?_;clear HF a;intro a HF
     refine za HF ?_;clear HF a;intro a HF
     refine wl_ne ?_
     refine wp_ret ?_
     refine ex_then_ret ?_
     refine ex_block_ret ?_
     refine ex_then_ret ?_
     refine ex_block_ret ?_
     refine ex_then_ret ?_
     refine bp_ret2 HF Tryz.results142 (HF.res rfl) (HF.res rfl) ?_
     refine .inr ⟨fun l h h2 => ?_, rfl, HS.out.bel⟩
     obtain ⟨y, ws, e1, e2, e3, e4⟩ := hto.go h.is h2 h.many hre
     have e5 := app_58 (dec_no58 y.size) h58 (e2.symm.trans hcut)
     rw [ba_ext e5.1] at e3; rw [e3] at hng; cases hng
  ·clear HF;rename_i HF
   have hre : (rest.toList == (⟨#[]⟩ : ByteArray).toList) = true := by simpa using cc2
   refine wc_false HF rfl ?_
   refine wp_exit ?_
   refine ex_then_exit ?_
   refine ex_then_exit ?_
   refine ex_block_hit ?_
   refine ex_then ?_
   refine wp_sr ?_
   refine zm HF ?_;clear HF a;intro a HF
   refine za HF ?_;clear HF a;intro a HF
   refine za HF ?_;clear HF a;intro a HF
   refine wl_ne ?_
   refine wp_ret ?_
   refine bp_ret2 HF Tryz.results142 (HF.res rfl) (HF.res rfl) ?_
   replace HS:=Bx.mk (HS.out.pick 0 rfl)
   exact .inl ⟨xs, ⟨hto.done hre, hxl⟩, hsz, _, _, rfl, HS.out⟩

end Go.Proofs.YtoaopmkbfifhaaaGreatDoor

/- Pointers, trees, roots read: walked. -/
namespace Go.Proofs.YtoaopmkbfifhaaaGreatDoor
set_option linter.unusedVariables false
set_option linter.unusedSimpArgs false
set_option maxHeartbeats 1000000
set_option maxRecDepth 100000
open Go.RowKit

theorem dec_no46 (n : Nat) : ∀ x ∈ (decB n).data.toList, x ≠ 46 := by
  intro x hx e
  subst e
  rw [decB_list] at hx
  obtain ⟨d, hd⟩ := digits_all n 46 hx
  obtain ⟨h1, h10⟩ := digit_back hd
  have hn : (UInt8.ofNat (48 + d)).toNat = 48 + d := by rw [UInt8.toNat_ofNat']; omega
  rw [← h1] at hn
  have : (46 : UInt8).toNat = 46 := rfl
  omega
theorem num_no46 {n : Int} (h : 0 ≤ n ∧ n ≤ 999999999) : ∀ x ∈ (numB n).data.toList, x ≠ 46 := by rw [numB_in h.1 h.2]; exact dec_no46 _
theorem pieces46 {a : ByteArray} (h : ∀ x ∈ a.data.toList, x ≠ 46) (b : ByteArray) : piecesB (a ++ (dotB ++ b)) 46 = a :: piecesB b 46 := by
  unfold piecesB
  rw [list_append, list_append, show dotB.data.toList = [46] from rfl, List.singleton_append, splitL_app 46 _ _ h, List.map_cons]
theorem pieces46_one {a : ByteArray} (h : ∀ x ∈ a.data.toList, x ≠ 46) : piecesB a 46 = [a] := by
  unfold piecesB
  rw [splitL_none 46 _ h, List.map_cons, List.map_nil]
theorem app_assoc (a b c : ByteArray) : a ++ b ++ c = a ++ (b ++ c) := ba_ext (by simp only [list_append, List.append_assoc])
theorem ptr_pieces {p : PtrD} (h : p.ok = true) (hh : p.hole = false) : piecesB (ptrB p) 46 = [numB p.fAt, numB p.fBirth, numB p.fSize, numB p.fSum, numB p.fLevel] := by
  have hb := PtrD.ok_all h hh
  rw [ptrB_yes h hh]
  simp only [app_assoc]
  rw [pieces46 (num_no46 (by omega)), pieces46 (num_no46 (by omega)), pieces46 (num_no46 (by omega)), pieces46 (num_no46 (by omega)), pieces46_one (num_no46 (by omega))]
theorem numG_num {n : Int} (h : 0 ≤ n ∧ n ≤ 999999999) : numG (numB n) = some n.toNat := by rw [numB_in h.1 h.2]; exact numG_dec (by omega)
theorem hole_zero {p : PtrD} (h : p.hole = true) : p = PtrD.zero := by
  unfold PtrD.hole at h
  simp only [Bool.and_eq_true, beq_iff_eq] at h
  obtain ⟨⟨⟨⟨h1, h2⟩, h3⟩, h4⟩, h5⟩ := h
  cases p
  simp only at h1 h2 h3 h4 h5
  subst h1; subst h2; subst h3; subst h4; subst h5
  rfl
theorem len5 {α : Type} {l : List α} (h : l.length = 5) : ∃ a b c d e, l = [a, b, c, d, e] := by
  match l, h with
  | [a, b, c, d, e], _ => exact ⟨a, b, c, d, e, rfl⟩
/-- Two valid pointers have one text only if they are one. -/
theorem ptrB_inj {p q : PtrD} (hp : p.ok = true) (hq : q.ok = true) (h : ptrB p = ptrB q) : p = q := by
  cases h1 : p.hole with
  | true =>
    cases h2 : q.hole with
    | true => rw [hole_zero h1, hole_zero h2]
    | false =>
      have := ptr_pieces hq h2
      rw [← h, ptrB_hole hp h1] at this
      exact absurd (congrArg List.length this) (show ¬ (1 : Nat) = 5 by decide)
  | false =>
    cases h2 : q.hole with
    | true =>
      have := ptr_pieces hp h1
      rw [h, ptrB_hole hq h2] at this
      exact absurd (congrArg List.length this) (show ¬ (1 : Nat) = 5 by decide)
    | false =>
      have e1 := ptr_pieces hp h1
      have e2 := ptr_pieces hq h2
      rw [h, e2] at e1
      have hb := PtrD.ok_all hp h1
      have hc := PtrD.ok_all hq h2
      simp only [List.cons.injEq, and_true] at e1
      obtain ⟨k1, k2, k3, k4, k5⟩ := e1
      have num : ∀ {m n : Int}, 0 ≤ m ∧ m ≤ 999999999 → 0 ≤ n ∧ n ≤ 999999999 → numB m = numB n → n = m := fun hm hn e => by
        have := numG_num hm
        rw [e, numG_num hn] at this
        have := Option.some.inj this
        omega
      have j1 := num (by omega) (by omega) k1
      have j2 := num (by omega) (by omega) k2
      have j3 := num (by omega) (by omega) k3
      have j4 := num (by omega) (by omega) k4
      have j5 := num (by omega) (by omega) k5
      cases p; cases q
      simp only at j1 j2 j3 j4 j5
      subst j1; subst j2; subst j3; subst j4; subst j5
      rfl

end Go.Proofs.YtoaopmkbfifhaaaGreatDoor

/- Trees and roots read: walked. -/
namespace Go.Proofs.YtoaopmkbfifhaaaGreatDoor
set_option linter.unusedVariables false
set_option linter.unusedSimpArgs false
set_option maxHeartbeats 1000000
set_option maxRecDepth 100000
open Go.RowKit

section
variable {P : Program} {o : Oper} {a : Act} {w : World} {e : TypeId}
theorem yl_sliceLH {t : TypeId} {x y z : Operand} (ho : o.op = .slice t x (some y) (some z) none) {g off n cap : Nat} (hx : a.eval x = .slice (some ⟨g, off, none⟩) n cap) {kk kl : IntKind} {m l : Int} (hy : a.eval y = .int kk m) (hz : a.eval z = .int kl l) {size : Nat} (hu : elemOf? P t = some (e, size)) {k j : Nat} (hm : m = (k : Int)) (hl : l = (j : Int)) (hk : k ≤ j) (hj : j ≤ cap) (hc : k < cap) : Yl P w o a (.slice (some ⟨g, off + k * size, none⟩) (j - k) (cap - k)) := by
  unfold elemOf? at hu
  split at hu
  · rename_i e' hu'
    split at hu
    · rename_i inf hq
      simp only [Option.some.injEq, Prod.mk.injEq] at hu
      obtain ⟨_, rfl⟩ := hu
      subst hm; subst hl
      have h2 : ((k : Int) ≤ (j : Int)) := by omega
      have h4 : ((j : Int) ≤ (cap : Int)) := by omega
      have h3 : ¬ cap = k := by omega
      unfold Yl execOp
      simp only [ho, hx, hy, hz, Option.map_some, Option.map_none, Instr.sliceAt, Instr.slice, Sem.run_bind, run_underlying hu' w, Result.andThen_ok]
      simp [Instr.slice, Instr.sliceBounds, Instr.sliceBound, asIntOf, go_sem, run_underlying hu' w, sizeOf, typeInfo, hq, h2, h3, h4, Addr.add]
      rw [if_pos hj]
      by_cases hz : k * inf.size = 0
      · rw [if_pos hz, if_pos hk, hz, Nat.add_zero]
      · rw [if_neg hz, if_pos hk]
    · cases hu
  · cases hu
end
theorem num_back {y : ByteArray} {n : Nat} (h : numG y = some n) : 0 ≤ (n : Int) ∧ (n : Int) ≤ 999999999 ∧ numB (n : Int) = y := by
  have h1 := numG_some h
  refine ⟨by omega, by omega, ?_⟩
  rw [numB_in (by omega) (by omega), Int.toNat_natCast, h1.2]
/-- What three fields tell. -/
structure IsTree (x y z : ByteArray) (t : TreeD) : Prop where
  ok : t.fRoot.ok = true
  p : ptrB t.fRoot = x
  d : 0 ≤ t.fDepth ∧ t.fDepth ≤ 999999999 ∧ numB t.fDepth = y
  m : 0 ≤ t.fMany ∧ t.fMany ≤ 999999999 ∧ numB t.fMany = z
theorem num_one {m n : Int} {y : ByteArray} (h : 0 ≤ m ∧ m ≤ 999999999 ∧ numB m = y) (k : 0 ≤ n ∧ n ≤ 999999999 ∧ numB n = y) : m = n := by
  have h1 := numG_num ⟨h.1, h.2.1⟩
  have h2 := numG_num ⟨k.1, k.2.1⟩
  rw [h.2.2] at h1
  rw [k.2.2, h1] at h2
  have := Option.some.inj h2
  omega
theorem IsTree.one {x y z : ByteArray} {t u : TreeD} (h : IsTree x y z t) (k : IsTree x y z u) : t = u := by
  have h1 := ptrB_inj h.ok k.ok (h.p.trans k.p.symm)
  have h2 := num_one h.d k.d
  have h3 := num_one h.m k.m
  cases t; cases u
  simp only at h1 h2 h3
  rw [h1, h2, h3]
theorem no_num {y : ByteArray} {n : Int} (h : 0 ≤ n ∧ n ≤ 999999999 ∧ numB n = y) (hg : numG y = none) : False := by
  have := numG_num ⟨h.1, h.2.1⟩
  rw [h.2.2, hg] at this
  cases this
theorem rec_size (y : ByteArray) (ys : List ByteArray) : (recB (y :: ys)).size = (decB y.size).size + 1 + y.size + (recB ys).size := by
  have h := congrArg List.length (recB_cons y ys)
  rw [← size_list, List.length_append, List.length_cons, List.length_append, ← size_list, ← size_list, ← size_list] at h
  omega
theorem RootD.all {x : RootD} (h : x.ok = true) : (1 ≤ x.fTxg ∧ x.fTxg ≤ 900) ∧ x.fMeta.fRoot.ok = true ∧ (0 ≤ x.fMeta.fDepth ∧ x.fMeta.fDepth ≤ 2) ∧ (1 ≤ x.fMeta.fMany ∧ x.fMeta.fMany ≤ 16) := by
  unfold RootD.ok at h
  cases h1 : inB x.fTxg 1 900 with
  | false => rw [h1] at h; cases h
  | true =>
    cases h2 : x.fMeta.fRoot.ok with
    | false => rw [h1, h2] at h; cases h
    | true =>
      cases h3 : inB x.fMeta.fDepth 0 2 with
      | false => rw [h1, h2, h3] at h; cases h
      | true =>
        rw [h1, h2, h3] at h
        have k1 := inB_true h1
        have k3 := inB_true h3
        have k4 := inB_true (show inB x.fMeta.fMany 1 16 = true from h)
        exact ⟨by omega, rfl, by omega, by omega⟩
theorem len6 {α : Type} {l : List α} (h : l.length = 6) : ∃ a b c d e f, l = [a, b, c, d, e, f] := by
  match l, h with
  | [a, b, c, d, e, f], _ => exact ⟨a, b, c, d, e, f, rfl⟩
end Go.Proofs.YtoaopmkbfifhaaaGreatDoor

/- Roots found on a set of disks: walked. -/
namespace Go.Proofs.YtoaopmkbfifhaaaGreatDoor
set_option linter.unusedVariables false
set_option linter.unusedSimpArgs false
set_option maxHeartbeats 1000000
set_option maxRecDepth 100000
open Go.RowKit

open Classical in
/-- The root that a text is the text of. -/
noncomputable def rootOf (s : ByteArray) : Option RootD := if h : ∃ x : RootD, x.ok = true ∧ rootB x = s then some h.choose else none
def rootZ : RootD := ⟨0, ⟨PtrD.zero, 0, 0⟩⟩
noncomputable def gotR (s : ByteArray) : RootD := (rootOf s).getD rootZ
noncomputable def gotB (s : ByteArray) : Bool := (rootOf s).isSome
/-- The better one of the best so far and of the root of a text. -/
noncomputable def bestR (b : RootD) (row : Nat) (s : ByteArray) : RootD := if gotB s = true ∧ (gotR s).fTxg % 4 = (row : Int) ∧ b.fTxg < (gotR s).fTxg then gotR s else b
noncomputable def bestTo (ds : List DiskD) (row : Nat) : Nat → RootD
  | 0 => rootZ
  | k + 1 => if (ds.getD k default).fGone = true then bestTo ds row k else bestR (bestTo ds row k) row ((ds.getD k default).look row)
noncomputable def rootAtF (ds : List DiskD) (row : Int) : RootD × Bool := if okR ds = true ∧ inB row 0 3 = true then (bestTo ds row.toNat ds.length, decide (0 < (bestTo ds row.toNat ds.length).fTxg)) else (rootZ, false)
end Go.Proofs.YtoaopmkbfifhaaaGreatDoor

/- Drawing texts and rows. -/
namespace Go.Proofs.YtoaopmkbfifhaaaGreatDoor
set_option linter.unusedVariables false
set_option linter.unusedSimpArgs false
set_option maxHeartbeats 1000000
set_option maxRecDepth 100000
open Go.RowKit

theorem l91Text_any (w0 w : World) (rb : Nat) (ab : Option Addr) (n cb : Nat) (bs : List UInt8) (hn : n ≤ 2000) (hR : Rd encB 1 w0 ab n bs) (B : Nat) (hB : B ≤ 900000) (m : Nat) (hm : m ≤ 1000) (F : List Asr) (hS : St w0 (rdA rb ab n cb B :: F) w) : Calls Tryz.prog 138 #[.pointer (some ⟨rb, 0, none⟩), .int .i64 (m : Int)] w fun e w' => ∃ t : ByteArray, e = .returned (.string t) ∧ t.size ≤ m ∧ St w0 (rdA rb ab n cb (B + (2 + 2 * m)) :: F) w' := by
 have HS := Bx.mk hS; clear hS
 refine wc_enter Tryz.func138 rfl Tryz.ntmps138 [(0, .pointer (some ⟨rb, 0, none⟩)), (1, .int .i64 (m : Int))] ⟨rfl, rfl, trivial⟩ rfl ?_; intro a HF
 refine wp_sr ?_
 refine za HF ?_;clear HF a;intro a HF
 refine wl_ne ?_
 refine wp_sr ?_
 refine wl_empty (e := 5) (size := 1) rfl HF rfl rfl rfl (by kernel_rfl) HS.out ?_; clear HF HS a; intro a w1 b1 HF HS; replace HS := Bx.mk HS
 refine za HF ?_;clear HF a;intro a HF
 refine wl_ne ?_
 refine wp_sr ?_
 refine zm HF ?_;clear HF a;intro a HF
 refine zm HF ?_;clear HF a;intro a HF
 refine zy HF (yl_addI rfl (HF.ev rfl) (HF.ev rfl) (i64w (by omega))) ?_;clear HF a;intro a HF
 replace HS:=Bx.mk (HS.out.pick 0 rfl)
 refine wl_call rfl HF rfl (enter_of Tryz.func94 (by kernel_rfl) rfl) (args := #[.pointer (some ⟨rb, 0, none⟩), .int .i64 ((m : Int) + 1)]) rfl (pickN w0 _ rb ab n cb bs hn hR B (by omega) ((m : Int) + 1) (by omega) _ HS.out) rfl rfl ?_
 rintro _ w2 ⟨dn2, rfl, hu2, hs1⟩
 refine ⟨_, rfl, ?_⟩; replace HS := Bx.mk hs1;clear hs1 HF a;intro a HF
 try dsimp only [List.eraseIdx] at HS
 refine za HF ?_;clear HF a;intro a HF
 refine wl_ne ?_
 refine wp_sr ?_
 refine zm HF ?_;clear HF a;intro a HF
 replace HS:=Bx.mk (HS.out.pick 0 rfl)
 refine wl_call rfl HF rfl (enter_of Tryz.func94 (by kernel_rfl) rfl) (args := #[.pointer (some ⟨rb, 0, none⟩), .int .i64 4]) rfl (pickN w0 _ rb ab n cb bs hn hR (B + 1) (by omega) 4 (by omega) _ HS.out) rfl rfl ?_
 rintro _ w3 ⟨dn3, rfl, hu3, hs1⟩
 refine ⟨_, rfl, ?_⟩; replace HS := Bx.mk hs1;clear hs1 HF a;intro a HF
 try dsimp only [List.eraseIdx] at HS
 refine za HF ?_;clear HF a;intro a HF
 refine wl_ne ?_
 refine wp_seq ?_
 refine wp_block ?_
 replace HS := Bx.mk (HS.out.nilRow encB 1 5 (some ⟨b1, 0, none⟩)); replace HS := Bx.mk (show St w0 (rowA encB 1 5 (.slice (some ⟨b1, 0, none⟩) 0 0) ([]) :: rdA rb ab n cb (B + 2 + 2 * 0) :: F) _ from (HS.out.swap.rdLe (B' := B + 2 + 2 * 0) (by omega)).swap)
 refine wc_loop (ι := Nat) (fun k a w => ∃ (ao : Option Addr) (cp : Nat) (xs : List UInt8), (xs.length = k ∧ k ≤ dn2) ∧ Fr 72 a [(0, .pointer (some ⟨rb, 0, none⟩)), (1, .int .i64 (m : Int)), (4, .string (⟨#[]⟩ : ByteArray)), (5, .slice ao xs.length cp), (6, .int .i64 (dn2 : Int)), (7, .int .i64 (dn3 : Int))] ∧ St w0 (rowA encB 1 5 (.slice ao xs.length cp) xs :: rdA rb ab n cb (B + 2 + 2 * k) :: F) w) (fun k => dn2 - k) 0 ⟨_, _, [], ⟨rfl, Nat.zero_le _⟩, HF.less _ ⟨rfl, rfl, rfl, rfl, rfl, rfl, trivial⟩, HS.out⟩ ?_
 clear HF HS; clear a
 rintro k a w4 ⟨ao, cp, xs, ⟨hxl, hk⟩, HF, HS⟩
 replace HS := Bx.mk HS
 refine wp_seq ?_
 refine wp_sr ?_
 refine zm HF ?_;clear HF a;intro a HF
 refine zy HF (yl_lenL (e := 5) (size := 1) rfl (HF.ev rfl) (by kernel_rfl)) ?_;clear HF a;intro a HF
 refine zm HF ?_;clear HF a;intro a HF
 refine zy HF (yl_lssI rfl (HF.ev rfl) (HF.ev rfl)) ?_;clear HF a;intro a HF
 refine wl_ne ?_
 refine HF.cases 20 rfl (fun cc1 _ => ?_) fun cc1 _ => ?_
 ·clear HF;rename_i HF
  have dcc1 := of_decide_eq_true cc1
  refine wc_true HF rfl ?_
  refine wp_skip ?_
  refine ex_then ?_
  refine wp_block ?_
  refine wp_sr ?_
  refine zm HF ?_;clear HF a;intro a HF
  refine wl_ne ?_
  refine wp_block ?_
  refine wp_sr ?_
  refine zy HF (yl_eqlI rfl (HF.ev rfl) (HF.ev rfl)) ?_;clear HF a;intro a HF
  refine za HF ?_;clear HF a;intro a HF
  refine wl_ne ?_
  refine HF.cases 29 rfl (fun cc2 _ => ?_) fun cc2 _ => ?_
  ·clear HF;rename_i HF
   have dcc2 := eq_of_beq cc2
   refine wc_true HF rfl ?_
   refine wp_region_lit ?_
   refine zm HF ?_;clear HF a;intro a HF
   refine zm HF ?_;clear HF a;intro a HF
   replace HS:=Bx.mk (HS.out.pick 1 rfl)
   refine wl_call rfl HF rfl (enter_of Tryz.func94 (by kernel_rfl) rfl) (args := #[.pointer (some ⟨rb, 0, none⟩), .int .i64 256]) rfl (pickN w0 _ rb ab n cb bs hn hR (B + 2 + 2 * k) (by omega) 256 (by omega) _ HS.out) rfl rfl ?_
   rintro _ w5 ⟨dn4, rfl, hu4, hs1⟩
   refine ⟨_, rfl, ?_⟩; replace HS := Bx.mk hs1;clear hs1 HF a;intro a HF
   try dsimp only [List.eraseIdx] at HS
   refine zy HF (yl_toU8 (b := UInt8.ofNat (dn4 : Int).toNat) rfl (HF.ev rfl) (by omega) rfl (by kernel_rfl) (by kernel_rfl)) ?_;clear HF a;intro a HF
   refine wl_buildS (enc := encB) (e := 5) (size := 1) rfl HF rfl rfl rfl (ps := [(0, .int .u8 ((UInt8.ofNat (dn4 : Int).toNat).toNat : Int))]) rfl (cells := [.int .u8 ((UInt8.ofNat (dn4 : Int).toNat).toNat : Int)]) (by kernel_rfl) [(UInt8.ofNat (dn4 : Int).toNat)] rfl rfl (by unfold maxLen; omega) rfl HS.out ?_; clear HF HS a; intro b5 a w6 HF HS; replace HS := Bx.mk HS
   refine wl_appL rfl HF rfl rfl rfl (HF.ev rfl) (HF.ev rfl) elemB encB_len HS.out 2 (xs := xs) rfl (ys := [(UInt8.ofNat (dn4 : Int).toNat)]) (St.rdN HS.out encB_len 0 rfl) (cells_one_B _) (by unfold maxLen; simp only [List.length_cons, List.length_nil]; omega) (by simp only [List.length_cons, List.length_nil]; omega) ?_; clear HF HS a; intro ao6 cp7 w7 a HF HS; replace HS := Bx.mk HS
   try dsimp only [List.eraseIdx] at HS
   refine za HF ?_;clear HF a;intro a HF
   refine wpList_nil ?_
   refine ex_block ?_
   refine ex_block ?_
   refine ex_then ?_
   have hz : xs.length + ([(UInt8.ofNat (dn4 : Int).toNat)]).length = (xs ++ ([(UInt8.ofNat (dn4 : Int).toNat)])).length := (List.length_append ..).symm
   rw [hz] at HS HF
   replace HS:=Bx.mk ((HS.out.pick 2 rfl).pick 2 rfl)
   replace HS := Bx.mk (HS.out.rdLe (B' := B + 2 + 2 * (k + 1)) (by omega)).swap
   try dsimp only [List.eraseIdx] at HS
   replace HS := Bx.mk ((HS.out.erase 2))
   exact ⟨k + 1, ⟨_, _, xs ++ ([(UInt8.ofNat (dn4 : Int).toNat)]), ⟨by simp [hxl], by omega⟩, HF.less _ ⟨rfl, rfl, rfl, rfl, rfl, rfl, trivial⟩, HS.out⟩, (by omega)⟩
  ·clear HF;rename_i HF
   have dcc2 := ne_of_beq_false cc2
   refine wc_false HF rfl ?_
   refine wp_sr ?_
   refine zy HF (yl_eqlI rfl (HF.ev rfl) (HF.ev rfl)) ?_;clear HF a;intro a HF
   refine za HF ?_;clear HF a;intro a HF
   refine wl_ne ?_
   refine HF.cases 37 rfl (fun cc3 _ => ?_) fun cc3 _ => ?_
   ·clear HF;rename_i HF
    have dcc3 := eq_of_beq cc3
    refine wc_true HF rfl ?_
    have hl7 : [(97 : UInt8), (98 : UInt8), (126 : UInt8), (48 : UInt8), (58 : UInt8), (59 : UInt8), (61 : UInt8)].length = 7 := rfl
    refine wp_region_lit ?_
    refine zm HF ?_;clear HF a;intro a HF
    refine wl_buildS (enc := encB) (e := 5) (size := 1) rfl HF rfl rfl rfl (ps := [(0, .int .u8 97), (1, .int .u8 98), (2, .int .u8 126), (3, .int .u8 48), (4, .int .u8 58), (5, .int .u8 59), (6, .int .u8 61)]) rfl (cells := [.int .u8 97, .int .u8 98, .int .u8 126, .int .u8 48, .int .u8 58, .int .u8 59, .int .u8 61]) (by kernel_rfl) [(97 : UInt8), (98 : UInt8), (126 : UInt8), (48 : UInt8), (58 : UInt8), (59 : UInt8), (61 : UInt8)] rfl rfl (by unfold maxLen; omega) rfl HS.out ?_; clear HF HS a; intro b8 a w8 HF HS; replace HS := Bx.mk HS
    refine wl_convSl (e := 5) rfl HF rfl rfl rfl (HF.ev rfl) (by kernel_rfl) (by kernel_rfl) HS.out 0 rfl (by decide) ?_; clear HF HS a; intro w9 a HF HS; replace HS := Bx.mk HS
    try dsimp only [List.eraseIdx] at HS
    refine zm HF ?_;clear HF a;intro a HF
    replace HS:=Bx.mk (HS.out.pick 2 rfl)
    refine wl_call rfl HF rfl (enter_of Tryz.func94 (by kernel_rfl) rfl) (args := #[.pointer (some ⟨rb, 0, none⟩), .int .i64 7]) rfl (pickN w0 _ rb ab n cb bs hn hR (B + 2 + 2 * k) (by omega) 7 (by omega) _ HS.out) rfl rfl ?_
    rintro _ w10 ⟨dn9, rfl, hu9, hs1⟩
    refine ⟨_, rfl, ?_⟩; replace HS := Bx.mk hs1;clear hs1 HF a;intro a HF
    try dsimp only [List.eraseIdx] at HS
    refine zy HF (yl_indexAddr (e := 5) (i := dn9) (size := 1) rfl (HF.ev rfl) (HF.ev rfl) (by kernel_rfl) rfl (by omega)) ?_;clear HF a;intro a HF
    refine zy HF (ylo (v := .int .u8 ((([(97 : UInt8), (98 : UInt8), (126 : UInt8), (48 : UInt8), (58 : UInt8), (59 : UInt8), (61 : UInt8)]).getD dn9 0).toNat : Int)) rfl (HF.ev rfl) (HS.out.rom1 encB_len 1 rfl (get_getD (xs := [(97 : UInt8), (98 : UInt8), (126 : UInt8), (48 : UInt8), (58 : UInt8), (59 : UInt8), (61 : UInt8)]) (j := dn9) (d := 0) (by omega)) rfl)) ?_;clear HF a;intro a HF
    refine wl_buildS (enc := encB) (e := 5) (size := 1) rfl HF rfl rfl rfl (ps := [(0, .int .u8 ((([(97 : UInt8), (98 : UInt8), (126 : UInt8), (48 : UInt8), (58 : UInt8), (59 : UInt8), (61 : UInt8)]).getD dn9 0).toNat : Int))]) rfl (cells := [.int .u8 ((([(97 : UInt8), (98 : UInt8), (126 : UInt8), (48 : UInt8), (58 : UInt8), (59 : UInt8), (61 : UInt8)]).getD dn9 0).toNat : Int)]) (by kernel_rfl) [(([(97 : UInt8), (98 : UInt8), (126 : UInt8), (48 : UInt8), (58 : UInt8), (59 : UInt8), (61 : UInt8)]).getD dn9 0)] rfl rfl (by unfold maxLen; omega) rfl HS.out ?_; clear HF HS a; intro b10 a w11 HF HS; replace HS := Bx.mk HS
    refine wl_appL rfl HF rfl rfl rfl (HF.ev rfl) (HF.ev rfl) elemB encB_len HS.out 3 (xs := xs) rfl (ys := [(([(97 : UInt8), (98 : UInt8), (126 : UInt8), (48 : UInt8), (58 : UInt8), (59 : UInt8), (61 : UInt8)]).getD dn9 0)]) (St.rdN HS.out encB_len 0 rfl) (cells_one_B _) (by unfold maxLen; simp only [List.length_cons, List.length_nil]; omega) (by simp only [List.length_cons, List.length_nil]; omega) ?_; clear HF HS a; intro ao11 cp12 w12 a HF HS; replace HS := Bx.mk HS
    try dsimp only [List.eraseIdx] at HS
    refine za HF ?_;clear HF a;intro a HF
    refine wpList_nil ?_
    refine ex_block ?_
    refine ex_block ?_
    refine ex_then ?_
    have hz : xs.length + ([(([(97 : UInt8), (98 : UInt8), (126 : UInt8), (48 : UInt8), (58 : UInt8), (59 : UInt8), (61 : UInt8)]).getD dn9 0)]).length = (xs ++ ([(([(97 : UInt8), (98 : UInt8), (126 : UInt8), (48 : UInt8), (58 : UInt8), (59 : UInt8), (61 : UInt8)]).getD dn9 0)])).length := (List.length_append ..).symm
    rw [hz] at HS HF
    replace HS:=Bx.mk ((HS.out.pick 3 rfl).pick 2 rfl)
    replace HS := Bx.mk (HS.out.rdLe (B' := B + 2 + 2 * (k + 1)) (by omega)).swap
    try dsimp only [List.eraseIdx] at HS
    replace HS := Bx.mk (((HS.out.erase 3).erase 2))
    exact ⟨k + 1, ⟨_, _, xs ++ ([(([(97 : UInt8), (98 : UInt8), (126 : UInt8), (48 : UInt8), (58 : UInt8), (59 : UInt8), (61 : UInt8)]).getD dn9 0)]), ⟨by simp [hxl], by omega⟩, HF.less _ ⟨rfl, rfl, rfl, rfl, rfl, rfl, trivial⟩, HS.out⟩, (by omega)⟩
   ·clear HF;rename_i HF
    have dcc3 := ne_of_beq_false cc3
    refine wc_false HF rfl ?_
    refine wp_sr ?_
    refine zy HF (yl_eqlI rfl (HF.ev rfl) (HF.ev rfl)) ?_;clear HF a;intro a HF
    refine za HF ?_;clear HF a;intro a HF
    refine wl_ne ?_
    refine HF.cases 48 rfl (fun cc4 _ => ?_) fun cc4 _ => ?_
    ·clear HF;rename_i HF
     have dcc4 := eq_of_beq cc4
     refine wc_true HF rfl ?_
     refine wp_sr ?_
     refine zm HF ?_;clear HF a;intro a HF
     replace HS:=Bx.mk (HS.out.pick 1 rfl)
     refine wl_call rfl HF rfl (enter_of Tryz.func94 (by kernel_rfl) rfl) (args := #[.pointer (some ⟨rb, 0, none⟩), .int .i64 3]) rfl (pickN w0 _ rb ab n cb bs hn hR (B + 2 + 2 * k) (by omega) 3 (by omega) _ HS.out) rfl rfl ?_
     rintro _ w13 ⟨dn13, rfl, hu13, hs1⟩
     refine ⟨_, rfl, ?_⟩; replace HS := Bx.mk hs1;clear hs1 HF a;intro a HF
     try dsimp only [List.eraseIdx] at HS
     refine zy HF (yl_addI rfl (HF.ev rfl) (HF.ev rfl) (i64w (by omega))) ?_;clear HF a;intro a HF
     refine zy HF (yl_toU8 (b := UInt8.ofNat ((97 : Int) + (dn13 : Int)).toNat) rfl (HF.ev rfl) (by omega) rfl (by kernel_rfl) (by kernel_rfl)) ?_;clear HF a;intro a HF
     refine za HF ?_;clear HF a;intro a HF
     refine wl_ne ?_
     refine wp_sr ?_
     refine zm HF ?_;clear HF a;intro a HF
     replace HS:=Bx.mk (HS.out.pick 0 rfl)
     refine wl_call rfl HF rfl (enter_of Tryz.func94 (by kernel_rfl) rfl) (args := #[.pointer (some ⟨rb, 0, none⟩), .int .i64 6]) rfl (pickN w0 _ rb ab n cb bs hn hR (B + 2 + 2 * k + 1) (by omega) 6 (by omega) _ HS.out) rfl rfl ?_
     rintro _ w14 ⟨dn14, rfl, hu14, hs1⟩
     refine ⟨_, rfl, ?_⟩; replace HS := Bx.mk hs1;clear hs1 HF a;intro a HF
     try dsimp only [List.eraseIdx] at HS
     refine za HF ?_;clear HF a;intro a HF
     refine wl_ne ?_
     refine wp_block ?_
     replace HS:=Bx.mk ((HS.out.pick 0 rfl).pick 1 rfl)
     refine wc_loop (ι := Nat) (fun j a w => ∃ (ao2 : Option Addr) (cp2 : Nat) (ys : List UInt8), (ys.length = k + j ∧ ys.length ≤ dn2 ∧ j ≤ 6) ∧ Fr 72 a [(0, .pointer (some ⟨rb, 0, none⟩)), (1, .int .i64 (m : Int)), (4, .string (⟨#[]⟩ : ByteArray)), (5, .slice ao2 ys.length cp2), (6, .int .i64 (dn2 : Int)), (7, .int .i64 (dn3 : Int)), (8, .int .u8 ((UInt8.ofNat ((97 : Int) + (dn13 : Int)).toNat).toNat : Int)), (9, .int .i64 ((dn14 : Int) - (j : Int)))] ∧ St w0 (rowA encB 1 5 (.slice ao2 ys.length cp2) ys :: rdA rb ab n cb (B + 2 + 2 * k + 1 + 1) :: F) w) (fun j => 6 - j) 0 ⟨_, _, xs, ⟨by omega, by omega, by omega⟩, HF.less _ ⟨rfl, rfl, rfl, rfl, rfl, rfl, rfl, (by show some (Value.int .i64 _) = some (Value.int .i64 _); exact congrArg (fun z => some (Value.int .i64 z)) (by omega)), trivial⟩, HS.out⟩ ?_
     clear HF HS; clear a
     rintro j a w15 ⟨ao2, cp2, ys, ⟨hy, hyk, hj⟩, HF, HS⟩
     replace HS := Bx.mk HS
     refine wp_seq ?_
     refine wp_sr ?_
     refine zm HF ?_;clear HF a;intro a HF
     refine zy HF (yl_geqI rfl (HF.ev rfl) (HF.ev rfl)) ?_;clear HF a;intro a HF
     refine zm HF ?_;clear HF a;intro a HF
     refine HF.cases 58 rfl (fun cc5 _ => ?_) fun cc5 _ => ?_
     ·clear HF;rename_i HF
      have dcc5 := of_decide_eq_true cc5
      refine zg HF (yl_move rfl (HF.ev rfl)) ?_;clear HF a;intro a HF
      refine zg HF (yl_lenL (e := 5) (size := 1) rfl (HF.ev rfl) (by kernel_rfl)) ?_;clear HF a;intro a HF
      refine zg HF (yl_move rfl (HF.ev rfl)) ?_;clear HF a;intro a HF
      refine zg HF (yl_lssI rfl (HF.ev rfl) (HF.ev rfl)) ?_;clear HF a;intro a HF
      refine zy HF (yl_pick_t rfl (HF.ev rfl) (HF.ev rfl)) ?_;clear HF a;intro a HF
      refine wl_ne ?_
      refine HF.cases 63 rfl (fun cc6 _ => ?_) fun cc6 _ => ?_
      ·clear HF;rename_i HF
       have dcc6 := of_decide_eq_true cc6
       refine wc_true HF rfl ?_
       refine wp_skip ?_
       refine ex_then ?_
       refine wp_seq ?_
       refine wp_block ?_
       refine wp_region_lit ?_
       refine zm HF ?_;clear HF a;intro a HF
       refine zm HF ?_;clear HF a;intro a HF
       refine wl_buildS (enc := encB) (e := 5) (size := 1) rfl HF rfl rfl rfl (ps := [(0, .int .u8 ((UInt8.ofNat ((97 : Int) + (dn13 : Int)).toNat).toNat : Int))]) rfl (cells := [.int .u8 ((UInt8.ofNat ((97 : Int) + (dn13 : Int)).toNat).toNat : Int)]) (by kernel_rfl) [(UInt8.ofNat ((97 : Int) + (dn13 : Int)).toNat)] rfl rfl (by unfold maxLen; omega) rfl HS.out ?_; clear HF HS a; intro b15 a w16 HF HS; replace HS := Bx.mk HS
       refine wl_appL rfl HF rfl rfl rfl (HF.ev rfl) (HF.ev rfl) elemB encB_len HS.out 1 (xs := ys) rfl (ys := [(UInt8.ofNat ((97 : Int) + (dn13 : Int)).toNat)]) (St.rdN HS.out encB_len 0 rfl) (cells_one_B _) (by unfold maxLen; simp only [List.length_cons, List.length_nil]; omega) (by simp only [List.length_cons, List.length_nil]; omega) ?_; clear HF HS a; intro ao16 cp17 w17 a HF HS; replace HS := Bx.mk HS
       try dsimp only [List.eraseIdx] at HS
       refine za HF ?_;clear HF a;intro a HF
       refine wpList_nil ?_
       refine ex_block ?_
       refine ex_then ?_
       refine wp_region_lit ?_
       refine zm HF ?_;clear HF a;intro a HF
       refine zy HF (yl_subI rfl (HF.ev rfl) (HF.ev rfl) (i64w (by omega))) ?_;clear HF a;intro a HF
       refine za HF ?_;clear HF a;intro a HF
       refine wl_ne ?_
       have hz : ys.length + ([(UInt8.ofNat ((97 : Int) + (dn13 : Int)).toNat)]).length = (ys ++ ([(UInt8.ofNat ((97 : Int) + (dn13 : Int)).toNat)])).length := (List.length_append ..).symm
       rw [hz] at HS HF
       replace HS:=Bx.mk ((HS.out.pick 2 rfl).pick 2 rfl)
       exact ⟨j + 1, ⟨_, _, ys ++ ([(UInt8.ofNat ((97 : Int) + (dn13 : Int)).toNat)]), ⟨by rw [← hz, hy]; simp only [List.length_cons, List.length_nil]; omega, by rw [← hz]; simp only [List.length_cons, List.length_nil]; omega, by omega⟩, HF.less _ ⟨rfl, rfl, rfl, rfl, rfl, rfl, rfl, (by show some (Value.int .i64 _) = some (Value.int .i64 _); exact congrArg (fun z => some (Value.int .i64 z)) (by omega)), trivial⟩, (HS.out.erase 2)⟩, (by omega)⟩
      ·clear HF;rename_i HF
       have dcc6 := of_decide_eq_false cc6
       refine wc_false HF rfl ?_
       refine wp_exit ?_
       refine ex_then_exit ?_
       refine ex_then_exit ?_
       refine ex_block_hit ?_
       refine ex_block ?_
       refine ex_block ?_
       refine ex_then ?_
       replace HS:=Bx.mk ((HS.out.pick 0 rfl).pick 1 rfl)
       replace HS := Bx.mk (HS.out.rdLe (B' := B + 2 + 2 * (ys.length)) (by omega)).swap
       try dsimp only [List.eraseIdx] at HS
       replace HS := Bx.mk (HS.out)
       exact ⟨ys.length, ⟨_, _, ys, ⟨rfl, by omega⟩, HF.less _ ⟨rfl, rfl, rfl, rfl, rfl, rfl, trivial⟩, HS.out⟩, (by omega)⟩
     ·clear HF;rename_i HF
      have dcc5 := of_decide_eq_false cc5
      refine zk HF ?_;clear HF a;intro a HF
      refine zk HF ?_;clear HF a;intro a HF
      refine zk HF ?_;clear HF a;intro a HF
      refine zk HF ?_;clear HF a;intro a HF
      refine zy HF (yl_pick_f rfl (HF.ev rfl) (HF.ev rfl)) ?_;clear HF a;intro a HF
      refine wl_ne ?_
      refine wc_false HF rfl ?_
      refine wp_exit ?_
      refine ex_then_exit ?_
      refine ex_then_exit ?_
      refine ex_block_hit ?_
      refine ex_block ?_
      refine ex_block ?_
      refine ex_then ?_
      replace HS:=Bx.mk ((HS.out.pick 0 rfl).pick 1 rfl)
      replace HS := Bx.mk (HS.out.rdLe (B' := B + 2 + 2 * (ys.length)) (by omega)).swap
      try dsimp only [List.eraseIdx] at HS
      replace HS := Bx.mk (HS.out)
      exact ⟨ys.length, ⟨_, _, ys, ⟨rfl, by omega⟩, HF.less _ ⟨rfl, rfl, rfl, rfl, rfl, rfl, trivial⟩, HS.out⟩, (by omega)⟩
    ·clear HF;rename_i HF
     have dcc4 := ne_of_beq_false cc4
     refine wc_false HF rfl ?_
     refine wp_region_lit ?_
     refine zm HF ?_;clear HF a;intro a HF
     refine zm HF ?_;clear HF a;intro a HF
     replace HS:=Bx.mk (HS.out.pick 1 rfl)
     refine wl_call rfl HF rfl (enter_of Tryz.func94 (by kernel_rfl) rfl) (args := #[.pointer (some ⟨rb, 0, none⟩), .int .i64 2]) rfl (pickN w0 _ rb ab n cb bs hn hR (B + 2 + 2 * k) (by omega) 2 (by omega) _ HS.out) rfl rfl ?_
     rintro _ w18 ⟨dn18, rfl, hu18, hs1⟩
     refine ⟨_, rfl, ?_⟩; replace HS := Bx.mk hs1;clear hs1 HF a;intro a HF
     try dsimp only [List.eraseIdx] at HS
     refine zy HF (yl_mulI rfl (HF.ev rfl) (HF.ev rfl) (i64w (by omega))) ?_;clear HF a;intro a HF
     refine zy HF (yl_toU8 (b := UInt8.ofNat ((dn18 : Int) * 97).toNat) rfl (HF.ev rfl) (by omega) rfl (by kernel_rfl) (by kernel_rfl)) ?_;clear HF a;intro a HF
     refine wl_buildS (enc := encB) (e := 5) (size := 1) rfl HF rfl rfl rfl (ps := [(0, .int .u8 ((UInt8.ofNat ((dn18 : Int) * 97).toNat).toNat : Int))]) rfl (cells := [.int .u8 ((UInt8.ofNat ((dn18 : Int) * 97).toNat).toNat : Int)]) (by kernel_rfl) [(UInt8.ofNat ((dn18 : Int) * 97).toNat)] rfl rfl (by unfold maxLen; omega) rfl HS.out ?_; clear HF HS a; intro b19 a w19 HF HS; replace HS := Bx.mk HS
     refine wl_appL rfl HF rfl rfl rfl (HF.ev rfl) (HF.ev rfl) elemB encB_len HS.out 2 (xs := xs) rfl (ys := [(UInt8.ofNat ((dn18 : Int) * 97).toNat)]) (St.rdN HS.out encB_len 0 rfl) (cells_one_B _) (by unfold maxLen; simp only [List.length_cons, List.length_nil]; omega) (by simp only [List.length_cons, List.length_nil]; omega) ?_; clear HF HS a; intro ao20 cp21 w20 a HF HS; replace HS := Bx.mk HS
     try dsimp only [List.eraseIdx] at HS
     refine za HF ?_;clear HF a;intro a HF
     refine wpList_nil ?_
     refine ex_block ?_
     refine ex_block ?_
     refine ex_then ?_
     have hz : xs.length + ([(UInt8.ofNat ((dn18 : Int) * 97).toNat)]).length = (xs ++ ([(UInt8.ofNat ((dn18 : Int) * 97).toNat)])).length := (List.length_append ..).symm
     rw [hz] at HS HF
     replace HS:=Bx.mk ((HS.out.pick 2 rfl).pick 2 rfl)
     replace HS := Bx.mk (HS.out.rdLe (B' := B + 2 + 2 * (k + 1)) (by omega)).swap
     try dsimp only [List.eraseIdx] at HS
     replace HS := Bx.mk ((HS.out.erase 2))
     exact ⟨k + 1, ⟨_, _, xs ++ ([(UInt8.ofNat ((dn18 : Int) * 97).toNat)]), ⟨by simp [hxl], by omega⟩, HF.less _ ⟨rfl, rfl, rfl, rfl, rfl, rfl, trivial⟩, HS.out⟩, (by omega)⟩
 ·clear HF;rename_i HF
  have dcc1 := of_decide_eq_false cc1
  refine wc_false HF rfl ?_
  refine wp_exit ?_
  refine ex_then_exit ?_
  refine ex_then_exit ?_
  refine ex_block_hit ?_
  refine ex_then ?_
  refine wp_sr ?_
  refine zm HF ?_;clear HF a;intro a HF
  refine zy HF (yl_convBS (e1 := 5) rfl (HF.ev rfl) (by kernel_rfl) (by kernel_rfl) (by kernel_rfl) (xs := xs) (St.rdOf HS.out encB_len 0 rfl)) ?_;clear HF a;intro a HF
  refine za HF ?_;clear HF a;intro a HF
  refine wl_ne ?_
  refine wp_ret ?_
  refine bp_ret1 HF Tryz.results138 (HF.res rfl) ?_
  replace HS:=Bx.mk (HS.out.pick 1 rfl)
  exact ⟨_, rfl, by show xs.toArray.size ≤ m; rw [List.size_toArray]; omega, ((HS.out.rdLe (B' := B + (2 + 2 * m)) (by omega)).erase 1)⟩

theorem l6Open_any (w0 : World) (ab : Option Addr) (n cb : Nat) (hcap : n ≤ cb) (hn : n ≤ 1048576) : Calls Tryz.prog 48 #[.slice ab n cb] w0 fun e w' => ∃ (rb n' : Nat), e = .returned (.pointer (some ⟨rb, 0, none⟩)) ∧ n' ≤ 2000 ∧ n' ≤ n ∧ St w0 [rdA rb ab n' cb 0] w' := by
 have HS := Bx.mk (St.start w0)
 refine wc_enter Tryz.func48 rfl Tryz.ntmps48 [(0, .slice ab n cb)] ⟨rfl, trivial⟩ rfl ?_; intro a HF
 refine wp_sr ?_
 refine za HF ?_;clear HF a;intro a HF
 refine wl_ne ?_
 refine wp_seq ?_
 refine wp_sr ?_
 refine zm HF ?_;clear HF a;intro a HF
 refine zy HF (yl_lenL (e := 5) (size := 1) rfl (HF.ev rfl) (by kernel_rfl)) ?_;clear HF a;intro a HF
 refine zy HF (yl_gtrI rfl (HF.ev rfl) (HF.ev rfl)) ?_;clear HF a;intro a HF
 refine wl_ne ?_
 refine HF.cases 5 rfl (fun cc1 _ => ?_) fun cc1 _ => ?_
 ·clear HF;rename_i HF
  have dcc1 := of_decide_eq_true cc1
  refine wc_true HF rfl ?_
  refine wp_region_lit ?_
  refine zm HF ?_;clear HF a;intro a HF
  refine zy HF (yl_sliceHi (e := 5) (size := 1) (k := 2000) rfl (HF.ev rfl) (HF.ev rfl) (by kernel_rfl) (by omega) (by omega)) ?_;clear HF a;intro a HF
  refine za HF ?_;clear HF a;intro a HF
  refine wl_ne ?_
  refine wp_sr ?_
  refine zm HF ?_;clear HF a;intro a HF
  refine zy HF (yl_build HF rfl (ps := [(0, .slice ab 2000 cb)]) rfl (cs := #[.slice ab 2000 cb, .int .i64 0]) (by kernel_rfl)) ?_;clear HF a;intro a HF
  refine wl_box rfl HF rfl (HF.ev rfl) (Z := [.slice ab 2000 cb, .int .i64 0]) rfl rfl rfl rfl HS.out ?_; clear HF HS a; intro a w1 b1 HF HS; replace HS := Bx.mk HS
  refine za HF ?_;clear HF a;intro a HF
  refine wl_ne ?_
  refine wp_ret ?_
  refine bp_ret1 HF Tryz.results48 (HF.res rfl) ?_
  exact ⟨_, 2000, rfl, by omega, by omega, St.rdMk (p := 0) (by omega) HS.out⟩
 ·clear HF;rename_i HF
  have dcc1 := of_decide_eq_false cc1
  refine wc_false HF rfl ?_
  refine wp_skip ?_
  refine ex_then ?_
  refine wp_sr ?_
  refine zm HF ?_;clear HF a;intro a HF
  refine zy HF (yl_build HF rfl (ps := [(0, .slice ab n cb)]) rfl (cs := #[.slice ab n cb, .int .i64 0]) (by kernel_rfl)) ?_;clear HF a;intro a HF
  refine wl_box rfl HF rfl (HF.ev rfl) (Z := [.slice ab n cb, .int .i64 0]) rfl rfl rfl rfl HS.out ?_; clear HF HS a; intro a w2 b2 HF HS; replace HS := Bx.mk HS
  refine za HF ?_;clear HF a;intro a HF
  refine wl_ne ?_
  refine wp_ret ?_
  refine bp_ret1 HF Tryz.results48 (HF.res rfl) ?_
  exact ⟨_, n, rfl, by omega, by omega, St.rdMk (p := 0) (by omega) HS.out⟩

end Go.Proofs.YtoaopmkbfifhaaaGreatDoor

/- Drawing sets of disks. -/
namespace Go.Proofs.YtoaopmkbfifhaaaGreatDoor
set_option linter.unusedVariables false
set_option linter.unusedSimpArgs false
set_option maxHeartbeats 1000000
set_option maxRecDepth 100000
open Go.RowKit

theorem St.imp0 {W w : World} {a b : Asr} {F : List Asr} (h : St W (a :: F) w) (hi : ∀ w f, a.P w f → b.P w f) : St W (b :: F) w := by
  obtain ⟨f, ⟨f1, f2, rfl, h1, h2⟩, hni, hb⟩ := h.sep
  exact ⟨h.bel, f1 ++ f2, ⟨f1, f2, rfl, hi w f1 h1, h2⟩, hni, hb⟩

end Go.Proofs.YtoaopmkbfifhaaaGreatDoor

/- The plain law of roots: what is written is there, on each disk. -/
namespace Go.Proofs.YtoaopmkbfifhaaaGreatDoor
set_option linter.unusedVariables false
set_option linter.unusedSimpArgs false
set_option maxHeartbeats 1000000
set_option maxRecDepth 100000
open Go.RowKit

/-- One disk: a text put to be written to a row. -/
theorem put_one {d e : DiskD} {m i : Nat} {t : ByteArray} (h : stepPut (m : Int) (fun _ => t) (fun _ => true) i d = some e) (hg : d.fGone = false) : e.fGone = false ∧ e.look m = t ∧ (∀ k, k ≠ m → e.look k = d.look k) ∧ (d.ok = true → e.ok = true) := by
  unfold stepPut at h
  have h1 : (d.fGone || !(fun _ : Nat => true) i) = false := by rw [hg]; rfl
  rw [h1] at h
  cases h2 : d.can (m : Int) t
  · rw [h2] at h; cases h
  · rw [h2] at h
    obtain rfl : d.putD (m : Int) t = e := by simpa using h
    refine ⟨hg, ?_, fun k hk => ?_, fun h => ok_put h h2⟩
    · show (lookW (d.fWaits ++ [(⟨(m : Int), t⟩ : WaitD)]) m).getD _ = _
      rw [lookW_append, if_pos rfl]; rfl
    · show (lookW (d.fWaits ++ [(⟨(m : Int), t⟩ : WaitD)]) k).getD _ = _
      rw [lookW_append, if_neg (by intro e; have e : (m : Int) = (k : Int) := e; omega)]
      rfl
theorem no_gone3 {ds : List DiskD} (h : lostN ds 3 = 0) : ∀ i, i < 3 → (ds.getD i default).fGone = false := by
  rw [lostN_three] at h
  intro i hi
  have key : ∀ b : Bool, b.toNat = 0 → b = false := by decide
  rcases (by omega : i = 0 ∨ i = 1 ∨ i = 2) with rfl | rfl | rfl
  · exact key _ (by omega)
  · exact key _ (by omega)
  · exact key _ (by omega)
/-- A text put to be written to a row of three disks. -/
theorem same_law {ds xs : List DiskD} {m : Nat} {t : ByteArray} (h : sameF ds (m : Int) t = some xs) (hok : okR ds = true) (hl : lostN ds 3 = 0) : okR xs = true ∧ ∀ i, i < 3 → (xs.getD i default).fGone = false ∧ (xs.getD i default).look m = t ∧ ∀ k, k ≠ m → (xs.getD i default).look k = (ds.getD i default).look k := by
  have hg := no_gone3 hl
  obtain ⟨k1, k2⟩ := okR_at hok
  have hst := fun k (hk : k < 3) => put_one (eachTo_at2 h hk) (hg k hk)
  exact ⟨okR_of (eachTo_len h) fun k hk => (hst k hk).2.2.2 (k2 k hk), fun i hi => ⟨(hst i hi).1, (hst i hi).2.1, (hst i hi).2.2.1⟩⟩
theorem bestTo_congr {ds es : List DiskD} {row : Nat} : ∀ {n : Nat}, (∀ i, i < n → (ds.getD i default).fGone = (es.getD i default).fGone ∧ (ds.getD i default).look row = (es.getD i default).look row) → bestTo ds row n = bestTo es row n
  | 0, _ => rfl
  | n + 1, h => by
    have ih := bestTo_congr (n := n) fun i hi => h i (by omega)
    show (if _ then _ else _) = (if _ then _ else _)
    rw [ih, (h n (by omega)).1, (h n (by omega)).2]
structure RootLaw (ds xs : List DiskD) (x : RootD) (m : Nat) : Prop where
  ok : x.ok = true
  row : x.fTxg % 4 = (m : Int)
  m4 : m < 4
  od : okR ds = true
  ox : okR xs = true
  is : ∀ i, i < 3 → (xs.getD i default).fGone = false ∧ (xs.getD i default).look m = rootB x ∧ ∀ k, k ≠ m → (xs.getD i default).look k = (ds.getD i default).look k
  g : ∀ i, i < 3 → (ds.getD i default).fGone = false
/-- The other rows are as they were. -/
theorem RootLaw.other {ds xs : List DiskD} {x : RootD} {m : Nat} (h : RootLaw ds xs x m) {k : Nat} (hk : k ≠ m) (hk4 : k < 4) : rootAtF xs (k : Int) = rootAtF ds (k : Int) := by
  have h1 := (okR_at h.ox).1
  have h2 := (okR_at h.od).1
  have hin : inB (k : Int) 0 3 = true := inB_yes (by omega) (by omega)
  have e : bestTo xs k 3 = bestTo ds k 3 := bestTo_congr fun i hi => ⟨by rw [(h.is i hi).1, h.g i hi], (h.is i hi).2.2 k hk⟩
  unfold rootAtF
  rw [if_pos ⟨h.ox, hin⟩, if_pos ⟨h.od, hin⟩, h1, h2, Int.toNat_natCast, e]
end Go.Proofs.YtoaopmkbfifhaaaGreatDoor

/- Intents as texts, read back; what is told of intents behind a write: plain. -/
namespace Go.Proofs.YtoaopmkbfifhaaaGreatDoor
set_option linter.unusedVariables false
set_option linter.unusedSimpArgs false
set_option maxHeartbeats 1000000
set_option maxRecDepth 100000
open Go.RowKit

theorem path_le20 {p : ByteArray} (h : pathB p = true) : p.size ≤ 20 := by
  cases hs : (p.toList == (⟨#[47]⟩ : ByteArray).toList) with
  | true => obtain rfl := bytes_toList hs; decide
  | false =>
    cases hh : (p.data.toList.head? == some 47) with
    | false => rw [pathB_no hs hh] at h; cases h
    | true =>
      rw [pathB_rest hs hh] at h
      have h1 := restB_size h
      rw [ext1_size] at h1
      omega
/-- How large the parts of a valid operation are. -/
structure OpS (o : OpD) : Prop where
  k : 1 ≤ o.fKind ∧ o.fKind ≤ 7
  p : o.fPath.size ≤ 20
  t : o.fTo.size ≤ 20
  a : 0 ≤ o.fAt ∧ o.fAt ≤ 192
  x : o.fText.size ≤ 24
theorem op_small {o : OpD} (h : o.ok = true) : OpS o := by
  have hp := OpD.ok_parts h
  unfold OpD.ok at h
  rw [Bool.and_eq_true, Bool.and_eq_true, Bool.and_eq_true, Bool.and_eq_true] at h
  obtain ⟨⟨⟨⟨hk, hpa⟩, ht⟩, ha⟩, hx⟩ := h
  refine ⟨⟨hp.1, hp.2.1⟩, path_le20 hpa, ?_, hp.2.2, ?_⟩
  · unfold OpD.toOk at ht
    cases h2 : o.two with
    | true => rw [h2] at ht; exact path_le20 ht
    | false => rw [h2] at ht; rw [bytes_toList ht]; decide
  · unfold OpD.textOk at hx
    rw [Bool.or_eq_true] at hx
    rcases hx with hx | hx
    · rw [bytes_toList hx]; decide
    · rw [Bool.and_eq_true] at hx
      have := of_decide_eq_true hx.2
      omega
theorem OpD.fits_small {o : OpD} (h : OpS o) : o.fits := ⟨Nat.le_trans h.p (by decide), Nat.le_trans h.t (by decide), Nat.le_trans h.x (by decide)⟩
theorem rec_leN {y : ByteArray} {ys : List ByteArray} {B M : Nat} (h : y.size ≤ M) (hM : M ≤ 2000) (hb : (recB ys).size ≤ B) : (recB (y :: ys)).size ≤ B + M + 10 := by
  rw [rec_size]
  have := decB_9 (n := y.size) (by omega)
  omega
theorem op_recL {o : OpD} (h : o.ok = true) : (recB [numB o.fKind, o.fPath, o.fTo, numB o.fAt, o.fText]).size ≤ 160 := by
  have hs := op_small h
  have h1 := numB_le o.fKind
  have h2 := numB_le o.fAt
  refine Nat.le_trans (rec_leN (M := 9) h1 (by decide) (rec_leN hs.p (by decide) (rec_leN hs.t (by decide) (rec_leN (M := 9) h2 (by decide) (rec_leN hs.x (by decide) (Nat.le_refl (recB []).size)))))) ?_
  have h0 : (recB []).size = 0 := rfl
  omega
theorem op_rec {o : OpD} (h : o.ok = true) : IsRec (opB o) [numB o.fKind, o.fPath, o.fTo, numB o.fAt, o.fText] := by
  rw [opB_yes h, fieldsPut_yes (by simp only [List.length_cons, List.length_nil]; omega) (Nat.le_trans (op_recL h) (by decide))]
  exact ⟨rfl, by simp only [List.length_cons, List.length_nil]; omega⟩
theorem opB_160 {o : OpD} (h : o.ok = true) : (opB o).size ≤ 160 := by
  rw [← (op_rec h).is]
  exact op_recL h
theorem opB_inj {o p : OpD} (ho : o.ok = true) (hp : p.ok = true) (h : opB o = opB p) : o = p := by
  have h1 := op_rec ho
  have h2 := op_rec hp
  rw [h] at h1
  have e := h1.one h2
  simp only [List.cons.injEq, and_true] at e
  obtain ⟨e1, e2, e3, e4, e5⟩ := e
  have so := op_small ho
  have sp := op_small hp
  have k1 : o.fKind = p.fKind := num_one (y := numB p.fKind) ⟨by have := so.k; omega, by have := so.k; omega, e1⟩ ⟨by have := sp.k; omega, by have := sp.k; omega, rfl⟩
  have k2 : o.fAt = p.fAt := num_one (y := numB p.fAt) ⟨by have := so.a; omega, by have := so.a; omega, e4⟩ ⟨by have := sp.a; omega, by have := sp.a; omega, rfl⟩
  cases o; cases p
  simp only at k1 e2 e3 k2 e5
  rw [k1, e2, e3, k2, e5]
theorem head_small {x : IntentD} (h : x.ok = true) : x.fHead.size ≤ 4 := by
  unfold IntentD.ok at h
  cases h1 : inB x.fTxg 1 900 with
  | false => rw [h1] at h; cases h
  | true =>
    cases h2 : inB x.fSeq 1 4 with
    | false => rw [h1, h2] at h; cases h
    | true =>
      cases h3 : nameB x.fHead with
      | false => rw [h1, h2, h3] at h; cases h
      | true =>
        unfold nameB at h3
        rw [Bool.and_eq_true] at h3
        have := inB_true h3.1
        omega
theorem int_rec {x : IntentD} (h : x.ok = true) : ∃ l : ByteArray, IsRec (intentB x) [(⟨#[108, 111, 103]⟩ : ByteArray), numB x.fTxg, numB x.fSeq, x.fHead, opB x.fOp, l] ∧ (intentB x).size ≤ 260 := by
  rw [intentB_yes h]
  have e : signB [(⟨#[108, 111, 103]⟩ : ByteArray), numB x.fTxg, numB x.fSeq, x.fHead, opB x.fOp] = (fieldsPut [(⟨#[108, 111, 103]⟩ : ByteArray), numB x.fTxg, numB x.fSeq, x.fHead, opB x.fOp, decB (sumOf (fieldsPut [(⟨#[108, 111, 103]⟩ : ByteArray), numB x.fTxg, numB x.fSeq, x.fHead, opB x.fOp]).1).toNat]).1 := rfl
  rw [e]
  have hs := sumOf_le (fieldsPut [(⟨#[108, 111, 103]⟩ : ByteArray), numB x.fTxg, numB x.fSeq, x.fHead, opB x.fOp]).1
  generalize sumOf (fieldsPut [(⟨#[108, 111, 103]⟩ : ByteArray), numB x.fTxg, numB x.fSeq, x.fHead, opB x.fOp]).1 = sm at hs
  have h1 := numB_le x.fTxg
  have h2 := numB_le x.fSeq
  have h3 := head_small h
  have h4 := opB_160 (IntentD.ok_parts h).2.2.2.2
  have h5 : (decB sm.toNat).size ≤ 9 := decB_9 (by omega)
  have hz : (recB [(⟨#[108, 111, 103]⟩ : ByteArray), numB x.fTxg, numB x.fSeq, x.fHead, opB x.fOp, decB sm.toNat]).size ≤ 260 := by
    refine Nat.le_trans (rec_leN (M := 3) (by decide) (by decide) (rec_leN (M := 9) h1 (by decide) (rec_leN (M := 9) h2 (by decide) (rec_leN h3 (by decide) (rec_leN h4 (by decide) (rec_leN h5 (by decide) (Nat.le_refl (recB []).size))))))) ?_
    have h0 : (recB []).size = 0 := rfl
    omega
  rw [fieldsPut_yes (by simp only [List.length_cons, List.length_nil]; omega) (Nat.le_trans hz (by decide))]
  exact ⟨_, ⟨rfl, by simp only [List.length_cons, List.length_nil]; omega⟩, hz⟩
theorem intentB_260 (x : IntentD) : (intentB x).size ≤ 260 := by
  cases h : x.ok with
  | false => rw [intentB_no h]; exact Nat.zero_le _
  | true => obtain ⟨_, _, h⟩ := int_rec h; exact h
theorem intentB_inj {x y : IntentD} (hx : x.ok = true) (hy : y.ok = true) (h : intentB x = intentB y) : x = y := by
  obtain ⟨l, h1, _⟩ := int_rec hx
  obtain ⟨m, h2, _⟩ := int_rec hy
  rw [h] at h1
  have e := h1.one h2
  simp only [List.cons.injEq, and_true, true_and] at e
  obtain ⟨e1, e2, e3, e4, _⟩ := e
  have a1 := IntentD.ok_parts hx
  have a2 := IntentD.ok_parts hy
  have k1 : x.fTxg = y.fTxg := num_one (y := numB y.fTxg) ⟨by omega, by omega, e1⟩ ⟨by omega, by omega, rfl⟩
  have k2 : x.fSeq = y.fSeq := num_one (y := numB y.fSeq) ⟨by omega, by omega, e2⟩ ⟨by omega, by omega, rfl⟩
  have k4 := opB_inj a1.2.2.2.2 a2.2.2.2.2 e4
  cases x; cases y
  simp only at k1 k2 e3 k4
  rw [k1, k2, e3, k4]
open Classical in
/-- The intent that a text is the text of. -/
noncomputable def intOf (s : ByteArray) : Option IntentD := if h : ∃ x : IntentD, x.ok = true ∧ intentB x = s then some h.choose else none
theorem intOf_yes {s : ByteArray} {x : IntentD} (hx : x.ok = true) (h : intentB x = s) : intOf s = some x := by
  have he : ∃ x : IntentD, x.ok = true ∧ intentB x = s := ⟨x, hx, h⟩
  unfold intOf
  rw [dif_pos he]
  have hc := he.choose_spec
  rw [intentB_inj hc.1 hx (hc.2.trans h.symm)]
theorem intOf_no {s : ByteArray} (h : ∀ x : IntentD, x.ok = true → intentB x = s → False) : intOf s = none := by
  unfold intOf
  rw [dif_neg fun ⟨x, hx, hs⟩ => h x hx hs]
def intZ : IntentD := ⟨0, 0, ByteArray.empty, ⟨0, ByteArray.empty, ByteArray.empty, 0, ByteArray.empty⟩⟩
noncomputable def gotI (s : ByteArray) : IntentD := (intOf s).getD intZ
noncomputable def gotX (s : ByteArray) : Bool := (intOf s).isSome
theorem got_int {x : IntentD} (hx : x.ok = true) : gotX (intentB x) = true ∧ gotI (intentB x) = x := by
  unfold gotX gotI
  rw [intOf_yes hx rfl]
  exact ⟨rfl, rfl⟩
instance : Inhabited IntentD := ⟨intZ⟩
/-! ### The intents that disks have -/
noncomputable def hitI (ds : List DiskD) (txg : Int) (s i : Nat) : Bool := !(ds.getD i default).fGone && (gotX ((ds.getD i default).look (3 + s)) && (((gotI ((ds.getD i default).look (3 + s))).fTxg == txg) && ((gotI ((ds.getD i default).look (3 + s))).fSeq == (s : Int))))
structure FirstI (ds : List DiskD) (txg : Int) (s : Nat) (x : IntentD) (i : Nat) : Prop where
  hi : i < 3
  hit : hitI ds txg s i = true
  is : x = gotI ((ds.getD i default).look (3 + s))
  no : ∀ j, j < i → hitI ds txg s j = false
def NoI (ds : List DiskD) (txg : Int) (s : Nat) : Prop := ∀ i, i < 3 → hitI ds txg s i = false
/-- The intents found in the first rows. -/
def GotL (ds : List DiskD) (txg : Int) (xs : List IntentD) : Prop := ∀ k, k < xs.length → ∃ i, FirstI ds txg (k + 1) (xs.getD k default) i
structure IsL (ds : List DiskD) (txg : Int) (xs : List IntentD) : Prop where
  got : GotL ds txg xs
  stop : xs.length < 4 → NoI ds txg (xs.length + 1)
  len : xs.length ≤ 4
theorem getD_app1 {xs : List IntentD} {x : IntentD} {k : Nat} (h : k < xs.length) : (xs ++ [x]).getD k default = xs.getD k default := by
  rw [getD_get h, getD_get (by rw [List.length_append]; omega), List.getElem_append_left h]
theorem getD_app2 {xs : List IntentD} {x : IntentD} : (xs ++ [x]).getD xs.length default = x := by
  rw [getD_get (by rw [List.length_append, List.length_singleton]; omega), List.getElem_append_right (Nat.le_refl _)]
  simp
theorem GotL.nil (ds : List DiskD) (txg : Int) : GotL ds txg [] := fun k hk => absurd hk (Nat.not_lt_zero _)
theorem GotL.snoc {ds : List DiskD} {txg : Int} {xs : List IntentD} (h : GotL ds txg xs) {x : IntentD} {i : Nat} (hx : FirstI ds txg (xs.length + 1) x i) : GotL ds txg (xs ++ [x]) := by
  intro k hk
  rw [List.length_append, List.length_singleton] at hk
  rcases (by omega : k < xs.length ∨ k = xs.length) with h1 | rfl
  · obtain ⟨j, hj⟩ := h k h1
    exact ⟨j, by rw [getD_app1 h1]; exact hj⟩
  · exact ⟨i, by rw [getD_app2]; exact hx⟩
theorem FirstI.one {ds : List DiskD} {txg : Int} {s : Nat} {x y : IntentD} {i j : Nat} (h : FirstI ds txg s x i) (k : FirstI ds txg s y j) : x = y := by
  rcases (by omega : i < j ∨ i = j ∨ j < i) with h1 | rfl | h1
  · have := k.no i h1; rw [h.hit] at this; cases this
  · rw [h.is, k.is]
  · have := h.no j h1; rw [k.hit] at this; cases this
theorem FirstI.some {ds : List DiskD} {txg : Int} {s : Nat} {x : IntentD} {i : Nat} (h : FirstI ds txg s x i) (k : NoI ds txg s) : False := by
  have := k i h.hi
  rw [h.hit] at this; cases this
structure IntLaw (ds xs : List DiskD) (x : IntentD) (s : Nat) : Prop where
  ok : x.ok = true
  row : x.fSeq = (s : Int)
  s1 : 1 ≤ s
  s4 : s ≤ 4
  od : okR ds = true
  ox : okR xs = true
  is : ∀ i, i < 3 → (xs.getD i default).fGone = false ∧ (xs.getD i default).look (3 + s) = intentB x ∧ ∀ k, k ≠ 3 + s → (xs.getD i default).look k = (ds.getD i default).look k
  g : ∀ i, i < 3 → (ds.getD i default).fGone = false
theorem int_law {ds xs : List DiskD} {x : IntentD} (h : intF ds x = some xs) (hl : lostN ds 3 = 0) : ∃ s : Nat, IntLaw ds xs x s := by
  cases h1 : (okR ds && x.ok) with
  | false => rw [intF_no h1] at h; cases h
  | true =>
    rw [Bool.and_eq_true] at h1
    rw [intF_yes h1.1 h1.2] at h
    have hp := IntentD.ok_parts h1.2
    have hm : (4 : Int) + x.fSeq - (1 : Int) = ((3 + x.fSeq.toNat : Nat) : Int) := by omega
    rw [hm] at h
    obtain ⟨k1, k2⟩ := same_law h h1.1 hl
    exact ⟨x.fSeq.toNat, h1.2, by omega, by omega, by omega, h1.1, k1, k2, no_gone3 hl⟩
theorem intF_ok {ds xs : List DiskD} {x : IntentD} (h : intF ds x = some xs) : okR xs = true := by
  cases h1 : (okR ds && x.ok) with
  | false => rw [intF_no h1] at h; cases h
  | true =>
    rw [Bool.and_eq_true] at h1
    rw [intF_yes h1.1 h1.2] at h
    have hp := IntentD.ok_parts h1.2
    have hm : (4 : Int) + x.fSeq - (1 : Int) = ((3 + x.fSeq.toNat : Nat) : Int) := by omega
    rw [hm] at h
    have h : eachTo (stepPut (((3 + x.fSeq.toNat : Nat) : Nat) : Int) (fun _ => intentB x) (fun _ => true)) ds 3 = some xs := h
    obtain ⟨k1, k2⟩ := okR_at h1.1
    refine okR_of (eachTo_len h) fun k hk => ?_
    have h2 := eachTo_at2 h hk
    cases hg : (ds.getD k default).fGone with
    | false => exact (put_one h2 hg).2.2.2 (k2 k hk)
    | true => rw [stepPut_skip (by rw [hg]; rfl)] at h2; rw [← Option.some.inj h2]; exact k2 k hk
section
variable {ds xs : List DiskD} {x : IntentD} {s : Nat}
theorem IntLaw.other (h : IntLaw ds xs x s) {txg : Int} {k i : Nat} (hk : k ≠ s) (hi : i < 3) : hitI xs txg k i = hitI ds txg k i := by
  unfold hitI
  rw [(h.is i hi).1, h.g i hi, (h.is i hi).2.2 (3 + k) (by omega)]
theorem IntLaw.first (h : IntLaw ds xs x s) {txg : Int} {k i : Nat} {y : IntentD} (hk : k ≠ s) : FirstI xs txg k y i ↔ FirstI ds txg k y i := by
  refine ⟨fun f => ⟨f.hi, by rw [← h.other hk f.hi]; exact f.hit, by rw [f.is, (h.is i f.hi).2.2 (3 + k) (by omega)], fun j hj => by rw [← h.other hk (by have := f.hi; omega)]; exact f.no j hj⟩, fun f => ⟨f.hi, by rw [h.other hk f.hi]; exact f.hit, by rw [f.is, (h.is i f.hi).2.2 (3 + k) (by omega)], fun j hj => by rw [h.other hk (by have := f.hi; omega)]; exact f.no j hj⟩⟩
theorem IntLaw.none (h : IntLaw ds xs x s) {txg : Int} {k : Nat} (hk : k ≠ s) : NoI xs txg k ↔ NoI ds txg k :=
  ⟨fun f i hi => by rw [← h.other hk hi]; exact f i hi, fun f i hi => by rw [h.other hk hi]; exact f i hi⟩
theorem IntLaw.here (h : IntLaw ds xs x s) : hitI xs x.fTxg s 0 = true := by
  unfold hitI
  rw [(h.is 0 (by omega)).1, (h.is 0 (by omega)).2.1, (got_int h.ok).1, (got_int h.ok).2, h.row]
  simp
theorem IntLaw.isx (h : IntLaw ds xs x s) {y : IntentD} {i : Nat} (f : FirstI xs x.fTxg s y i) : y = x := by
  rw [f.is, (h.is i f.hi).2.1, (got_int h.ok).2]
/-- The rows ahead are told alike. -/
theorem IntLaw.ahead (h : IntLaw ds xs x s) {old list : List IntentD} (ho : IsL ds x.fTxg old) (hl : IsL xs x.fTxg list) {k : Nat} (k1 : k < old.length) (k2 : k < list.length) (hk : k + 1 ≠ s) : list.getD k default = old.getD k default := by
  obtain ⟨i, f⟩ := ho.got k k1
  obtain ⟨j, g⟩ := hl.got k k2
  exact ((h.first hk).1 g).one f
theorem list_ext_getD {a b : List IntentD} (hl : a.length = b.length) (h : ∀ k, k < a.length → a.getD k default = b.getD k default) : a = b := by
  refine List.ext_getElem hl fun k h1 h2 => ?_
  have := h k h1
  rwa [getD_get h1, getD_get h2] at this
theorem IntLaw.short (h : IntLaw ds xs x s) {old list : List IntentD} (ho : IsL ds x.fTxg old) (hl : IsL xs x.fTxg list) (hs : old.length < s - 1) : list = old := by
  have h4 := h.s4
  have hn := ho.stop (by omega)
  have h1 : list.length ≤ old.length := by
    rcases (by omega : list.length ≤ old.length ∨ old.length < list.length) with e | e
    · exact e
    · obtain ⟨i, f⟩ := hl.got old.length e
      exact (f.some ((h.none (by omega)).2 hn)).elim
  have h2 : old.length ≤ list.length := by
    rcases (by omega : old.length ≤ list.length ∨ list.length < old.length) with e | e
    · exact e
    · obtain ⟨i, f⟩ := ho.got list.length e
      exact (f.some ((h.none (by omega)).1 (hl.stop (by omega)))).elim
  exact list_ext_getD (by omega) fun k hk => h.ahead ho hl (by omega) hk (by omega)
theorem IntLaw.long (h : IntLaw ds xs x s) {old list : List IntentD} (ho : IsL ds x.fTxg old) (hl : IsL xs x.fTxg list) (hs : s - 1 ≤ old.length) : s ≤ list.length ∧ list.getD (s - 1) default = x ∧ list.take (s - 1) = old.take (s - 1) := by
  have h4 := h.s4
  have h1 := h.s1
  have hlen : s ≤ list.length := by
    rcases (by omega : s ≤ list.length ∨ list.length < s - 1 ∨ list.length + 1 = s) with e | e | e
    · exact e
    · obtain ⟨i, f⟩ := ho.got list.length (by omega)
      exact (f.some ((h.none (by omega)).1 (hl.stop (by omega)))).elim
    · have := hl.stop (by omega) 0 (by omega)
      rw [e, h.here] at this; cases this
  refine ⟨hlen, ?_, ?_⟩
  · obtain ⟨i, f⟩ := hl.got (s - 1) (by omega)
    rw [show s - 1 + 1 = s by omega] at f
    exact h.isx f
  · refine list_ext_getD (by rw [List.length_take, List.length_take]; omega) fun k hk => ?_
    rw [List.length_take] at hk
    have hk1 : k < list.length := by omega
    have hk2 : k < old.length := by omega
    have := h.ahead ho hl hk2 hk1 (by omega)
    rw [getD_get hk1, getD_get hk2] at this
    rw [getD_get (by rw [List.length_take]; omega), getD_get (by rw [List.length_take]; omega), List.getElem_take, List.getElem_take, this]
end
end Go.Proofs.YtoaopmkbfifhaaaGreatDoor

/- A part of a box is written as a whole. -/
namespace Go.Proofs.YtoaopmkbfifhaaaGreatDoor
set_option linter.unusedVariables false
set_option linter.unusedSimpArgs false
set_option maxHeartbeats 1000000
set_option maxRecDepth 100000
open Go.RowKit

theorem Box.putAt {w : World} {b n : Nat} {t : TypeId} {cs : List Value} (h : Box w b n t (.agg cs.toArray)) (k : Nat) (ds : List Value) (hk : k + ds.length ≤ cs.length) (g1 : ∀ u ∈ ds, u.oneCell' = true) :
    w.there b k ds.length ∧ Box (w.setCells b k ds) b n t (.agg (splice cs k ds).toArray) ∧ Outside b (b + 1) w (w.setCells b k ds) := by
  obtain ⟨cs', e, hl, h1, hh⟩ := h
  obtain rfl : cs = cs' := by simpa using e
  obtain ⟨k1, k2, k3⟩ := blk_setCells ds k w cs hh hk
  refine ⟨fun j hj => ⟨by rw [blk_cell hh]; simp; omega, blk_frozen hh _⟩, ⟨_, rfl, ?_, ?_, k1⟩, k2⟩
  · unfold splice; simp; omega
  · intro u hu
    unfold splice at hu
    rcases List.mem_append.1 hu with hu | hu
    · rcases List.mem_append.1 hu with hu | hu
      · exact h1 u (List.mem_of_mem_take hu)
      · exact g1 u hu
    · exact h1 u (List.mem_of_mem_drop hu)
section
variable {P : Program} {ops : Array Oper} {Q : Exit → Act → World → Prop} {rest : List Oper} {o : Oper} {a : Act} {W w : World} {s : List Asr}
theorem wl_storeSub (hg : o.guard = none) {t : TypeId} {x y : Operand} (ho : o.op = .store t x y) (hd : o.dst = none) {b n k : Nat} {T : TypeId} {cs ds rs : List Value} (hx : a.eval x = .pointer (some ⟨b, k, none⟩)) (hy : a.eval y = .agg ds.toArray) (hS : St W s w) (i : Nat) (hi : s[i]? = some (boxA b n T (.agg cs.toArray))) (hk : Nat.ble (k + ds.length) cs.length = true) (hv : (ds.all fun u => u.oneCell') = true) (hn : rowOf? P t ds.length = true) (hr : splice cs k ds = rs)
    (h : ∀ w', St W (s.set i (boxA b n T (.agg rs.toArray))) w' → wpList P ops Q rest a w') : wpList P ops Q (o :: rest) a w := by
  obtain ⟨k1, k2, k3⟩ := (hS.box i hi).putAt k ds (Nat.le_of_ble_eq_true hk) (List.all_eq_true.1 hv)
  refine wpList_plain hg fun K hK => wp_store_mid t x y ho b k ds.toArray hx hy (by simpa using k1) (by rw [(rowOf_spec hn).2]; simp) (by simpa using hv) ?_
  rw [hd]
  exact hK _ _ (h _ (by rw [← hr]; exact hS.putBox i hi k2 k3))
end
end Go.Proofs.YtoaopmkbfifhaaaGreatDoor

/- Operations and intents read: walked. -/
namespace Go.Proofs.YtoaopmkbfifhaaaGreatDoor
set_option linter.unusedVariables false
set_option linter.unusedSimpArgs false
set_option maxHeartbeats 1000000
set_option maxRecDepth 100000
open Go.RowKit

section
variable {P : Program} {ops : Array Oper} {Q : Exit → Act → World → Prop} {a : Act} {w : World} {rest : List Oper} {o : Oper} {N : Nat} {l : List (Nat × Value)}
/-- A guard that holds is no guard. -/
theorem wl_ung (hF : Fr N a l) {g dg : Nat} {b : Bool} (hgd : o.guard = some (g, b)) (hgo : (ops[g]?).bind (·.dst) = some dg) (hgv : lk l dg = some (.bool b)) (h : wpList P ops Q ({ o with guard := none } :: rest) a w) : wpList P ops Q (o :: rest) a w := by
  unfold wpList at h ⊢
  rw [if_pos (hF.want hgd hgo hgv)]
  rw [if_pos (show Region.wanted { o with guard := none } (yielded ops a.tmps) = true from rfl)] at h
  exact h
end
theorem no_numk {y : ByteArray} {n : Int} (h : 0 ≤ n ∧ n ≤ 999999999) (e : y = numB n) (hg : numG y = none) : False := no_num (n := n) ⟨h.1, h.2, e.symm⟩ hg

theorem opGet_any (s : ByteArray) (w0 : World) (hT : TabP w0) (hM : MaxP w0) (hE : ErrP w0) (hs : s.size ≤ 9223372036854775807) : Calls Tryz.prog 148 #[.string s] w0 fun e w' => (∃ o : OpD, o.ok = true ∧ opB o = s ∧ e = .returned (.tuple #[.agg #[.int .i64 o.fKind, .string o.fPath, .string o.fTo, .int .i64 o.fAt, .string o.fText], .bool true]) ∧ Below w0.heap.size w0 w') ∨ ((∀ o : OpD, o.ok = true → opB o = s → False) ∧ e = .returned (.tuple #[.agg #[.int .i64 0, .string ByteArray.empty, .string ByteArray.empty, .int .i64 0, .string ByteArray.empty], .bool false]) ∧ Below w0.heap.size w0 w') := by
  have HT := Bx.mk hT; have HM := Bx.mk hM; have HE := Bx.mk hE; clear hT hM hE
  have HS := Bx.mk (St.start w0)
  refine wc_enter Tryz.func148 rfl Tryz.ntmps148 [(0, .string s)] ⟨rfl, trivial⟩ rfl ?_; intro a HF
  refine wp_sr ?_
  refine wl_alloc rfl HF rfl rfl rfl (Z := [.int .i64 0, .string ByteArray.empty, .string ByteArray.empty, .int .i64 0, .string ByteArray.empty]) (by kernel_rfl) rfl HS.out ?_; clear HF HS a; intro a w1 b1 HF HS; replace HS := Bx.mk HS
  refine za HF ?_;clear HF a;intro a HF
  refine wl_ne ?_
  refine wp_sr ?_
  refine zm HF ?_;clear HF a;intro a HF
  refine wl_call rfl HF rfl (enter_of Tryz.func142 (by kernel_rfl) rfl) (args := #[.string s]) rfl (fieldsGet_any s _ (HT.out.below HS.out.bel) (HM.out.below HS.out.bel) (HE.out.below HS.out.bel) (by omega)) rfl rfl ?_
  rintro _ w2 (⟨xs, hrec, hsz, ao, cp, rfl, hs1⟩ | ⟨hno, rfl, hb⟩)
  · skip
    refine ⟨_, rfl, ?_⟩; replace HS := Bx.mk (HS.out.add hs1);clear hs1 HF a;intro a HF
    try dsimp only [List.eraseIdx] at HS
    refine zm HF ?_;clear HF a;intro a HF
    refine zy HF (yl_extract rfl (HF.ev rfl) rfl) ?_;clear HF a;intro a HF
    refine zy HF (yl_extract rfl (HF.ev rfl) rfl) ?_;clear HF a;intro a HF
    refine za HF ?_;clear HF a;intro a HF
    refine za HF ?_;clear HF a;intro a HF
    refine wl_ne ?_
    refine wp_seq ?_
    refine wp_sr ?_
    refine zm HF ?_;clear HF a;intro a HF
    refine zy HF (yl_not rfl (HF.ev rfl)) ?_;clear HF a;intro a HF
    refine zm HF ?_;clear HF a;intro a HF
    refine zg HF (yl_move rfl (HF.ev rfl)) ?_;clear HF a;intro a HF
    refine zg HF (yl_lenL (e := 9) (size := 1) rfl (HF.ev rfl) (by kernel_rfl)) ?_;clear HF a;intro a HF
    refine zg HF (yl_neqI rfl (HF.ev rfl) (HF.ev rfl)) ?_;clear HF a;intro a HF
    refine zy HF (yl_pick_f rfl (HF.ev rfl) (HF.ev rfl)) ?_;clear HF a;intro a HF
    refine wl_ne ?_
    refine HF.cases 22 rfl (fun cc1 _ => ?_) fun cc1 _ => ?_
    · clear HF;rename_i HF
      have dcc1 := bne_iff_ne.1 cc1
      refine wc_true HF rfl ?_
      refine wp_sr ?_
      refine zy HF (yl_build HF rfl (ps := []) rfl (cs := #[.int .i64 0, .string ByteArray.empty, .string ByteArray.empty, .int .i64 0, .string ByteArray.empty]) (by kernel_rfl)) ?_;clear HF a;intro a HF
      refine wl_storeBox rfl HF rfl rfl (HF.ev rfl) (HF.ev rfl) HS.out 1 rfl (cells_lit [.int .i64 0, .string ByteArray.empty, .string ByteArray.empty, .int .i64 0, .string ByteArray.empty] rfl rfl) (by kernel_rfl) ?_; clear HS; intro w3 HS; replace HS := Bx.mk HS
      have HS : Bx (St w0 ([rowA encS 1 9 (.slice ao xs.length cp) xs, boxA b1 5 53 (.agg #[.int .i64 0, .string ByteArray.empty, .string ByteArray.empty, .int .i64 0, .string ByteArray.empty])]) _) := HS
      refine za HF ?_;clear HF a;intro a HF
      refine wl_ne ?_
      refine wp_ret ?_
      refine ex_then_ret ?_
      refine bp_ret2 HF Tryz.results148 (HF.resBox rfl (HS.out.box 1 rfl) (by kernel_rfl)) (HF.res rfl) ?_
      refine .inr ⟨fun o ho hos => ?_, rfl, HS.out.bel⟩
      have hl5 := op_rec ho; have hx2 := opB_160 ho; rw [hos] at hl5 hx2; have hxa := op_small ho; have hxk := hxa.k; have hxt := hxa.a
      have hone := hrec.one hl5
      rw [hone] at dcc1; exact dcc1 rfl
    · clear HF;rename_i HF
      have dcc1 := bne_eq_false_iff_eq.1 cc1
      refine wc_false HF rfl ?_
      refine wp_skip ?_
      refine ex_then ?_
      refine wp_seq ?_
      obtain ⟨y0, y1, y2, y3, y4, rfl⟩ := len5 (l := xs) (by omega)
      replace HF : Fr 64 a [(0, .string s), (2, .pointer (some ⟨b1, 0, none⟩)), (3, .bool false), (12, .string s), (14, .slice ao 5 cp), (15, .bool true), (4, .slice ao 5 cp), (5, .bool true), (16, .bool true), (17, .bool false), (18, .bool false), (19, .slice ao 5 cp), (22, .bool false)] := HF.less _ ⟨rfl, rfl, rfl, rfl, rfl, rfl, rfl, rfl, rfl, rfl, rfl, rfl, rfl, trivial⟩
      try dsimp only [List.eraseIdx] at HS
      obtain ⟨g2, rfl, _, _, _, _⟩ := HS.out.rowOpen 0 rfl (Nat.succ_pos _)
      have hcap := HS.out.capLe 0 rfl
      have hy0 : y0.size ≤ 2048 := by have := recB_elem [y0, y1, y2, y3, y4] (k := 0) (by simp only [List.length_cons, List.length_nil]; omega); rw [hrec.is] at this; have e : ([y0, y1, y2, y3, y4] : List ByteArray).getD 0 ByteArray.empty = y0 := rfl; rw [e] at this; omega
      have hy1 : y1.size ≤ 2048 := by have := recB_elem [y0, y1, y2, y3, y4] (k := 1) (by simp only [List.length_cons, List.length_nil]; omega); rw [hrec.is] at this; have e : ([y0, y1, y2, y3, y4] : List ByteArray).getD 1 ByteArray.empty = y1 := rfl; rw [e] at this; omega
      have hy2 : y2.size ≤ 2048 := by have := recB_elem [y0, y1, y2, y3, y4] (k := 2) (by simp only [List.length_cons, List.length_nil]; omega); rw [hrec.is] at this; have e : ([y0, y1, y2, y3, y4] : List ByteArray).getD 2 ByteArray.empty = y2 := rfl; rw [e] at this; omega
      have hy3 : y3.size ≤ 2048 := by have := recB_elem [y0, y1, y2, y3, y4] (k := 3) (by simp only [List.length_cons, List.length_nil]; omega); rw [hrec.is] at this; have e : ([y0, y1, y2, y3, y4] : List ByteArray).getD 3 ByteArray.empty = y3 := rfl; rw [e] at this; omega
      have hy4 : y4.size ≤ 2048 := by have := recB_elem [y0, y1, y2, y3, y4] (k := 4) (by simp only [List.length_cons, List.length_nil]; omega); rw [hrec.is] at this; have e : ([y0, y1, y2, y3, y4] : List ByteArray).getD 4 ByteArray.empty = y4 := rfl; rw [e] at this; omega
      refine wp_region_lit ?_
      refine zm HF ?_;clear HF a;intro a HF
      refine zy HF (yl_indexAddr (e := 9) (i := 0) (size := 1) rfl (HF.ev rfl) (HF.ev rfl) (by kernel_rfl) rfl (by omega)) ?_;clear HF a;intro a HF
      refine zy HF (ylo (v := .string y0) rfl (HF.ev rfl) (HS.out.elem1 encS_len 0 rfl (show ([y0, y1, y2, y3, y4] : List _)[0]? = some _ from rfl) rfl)) ?_;clear HF a;intro a HF
      refine wl_call rfl HF rfl (enter_of Tryz.func143 (by kernel_rfl) rfl) (args := #[.string y0]) rfl (implNumGet_any y0 _ (HT.out.below HS.out.bel) (HE.out.below HS.out.bel)) rfl rfl ?_
      rintro _ w4 (⟨n3, hg3, rfl, hb⟩ | ⟨hg3, rfl, hb⟩)
      · skip
        refine ⟨_, rfl, ?_⟩; replace HS := Bx.mk (HS.out.later hb);clear hb HF a;intro a HF
        refine zm HF ?_;clear HF a;intro a HF
        refine zy HF (yl_extract rfl (HF.ev rfl) rfl) ?_;clear HF a;intro a HF
        refine zy HF (yl_extract rfl (HF.ev rfl) rfl) ?_;clear HF a;intro a HF
        refine za HF ?_;clear HF a;intro a HF
        refine za HF ?_;clear HF a;intro a HF
        refine wl_ne ?_
        refine wp_sr ?_
        refine zm HF ?_;clear HF a;intro a HF
        refine zy HF (yl_indexAddr (e := 9) (i := 3) (size := 1) rfl (HF.ev rfl) (HF.ev rfl) (by kernel_rfl) rfl (by omega)) ?_;clear HF a;intro a HF
        refine zy HF (ylo (v := .string y3) rfl (HF.ev rfl) (HS.out.elem1 encS_len 0 rfl (show ([y0, y1, y2, y3, y4] : List _)[3]? = some _ from rfl) rfl)) ?_;clear HF a;intro a HF
        refine wl_call rfl HF rfl (enter_of Tryz.func143 (by kernel_rfl) rfl) (args := #[.string y3]) rfl (implNumGet_any y3 _ (HT.out.below HS.out.bel) (HE.out.below HS.out.bel)) rfl rfl ?_
        rintro _ w5 (⟨n4, hg4, rfl, hb⟩ | ⟨hg4, rfl, hb⟩)
        · skip
          refine ⟨_, rfl, ?_⟩; replace HS := Bx.mk (HS.out.later hb);clear hb HF a;intro a HF
          refine zm HF ?_;clear HF a;intro a HF
          refine zy HF (yl_extract rfl (HF.ev rfl) rfl) ?_;clear HF a;intro a HF
          refine zy HF (yl_extract rfl (HF.ev rfl) rfl) ?_;clear HF a;intro a HF
          refine za HF ?_;clear HF a;intro a HF
          refine za HF ?_;clear HF a;intro a HF
          refine wl_ne ?_
          refine wp_seq ?_
          refine wr_heldS (s := [rowA encS 1 9 (.slice (some ⟨g2, 0, none⟩) 5 cp) ([y0, y1, y2, y3, y4]), boxA b1 5 53 (.agg #[.int .i64 0, .string ByteArray.empty, .string ByteArray.empty, .int .i64 0, .string ByteArray.empty])]) (by kernel_rfl) (St.drew (HS.out)) ?_
          have HS2 := Bx.mk HS.out.drew; replace HS := Bx.mk (show St w0 ([rowA encS 1 9 (.slice (some ⟨g2, 0, none⟩) 5 cp) ([y0, y1, y2, y3, y4]), boxA b1 5 53 (.agg #[.int .i64 0, .string ByteArray.empty, .string ByteArray.empty, .int .i64 0, .string ByteArray.empty])]) _ from HS.out.drew)
          generalize World.drew _ = w6 at HS HS2 ⊢
          refine zh 0 rfl HF (fun _ HS => (yl_move rfl (HF.ev rfl))) HS.out ?_;clear HF a;intro a HF
          refine zh 1 rfl HF (fun _ HS => (yl_move rfl (HF.ev rfl))) HS.out ?_;clear HF a;intro a HF
          refine zh 2 rfl HF (fun _ HS => (yl_indexAddr (e := 9) (i := 1) (size := 1) rfl (HF.ev rfl) (HF.ev rfl) (by kernel_rfl) rfl (by omega))) HS.out ?_;clear HF a;intro a HF
          refine zh 3 rfl HF (fun _ HS => (ylo (v := .string y1) rfl (HF.ev rfl) (HS.elem1 encS_len 0 rfl (show ([y0, y1, y2, y3, y4] : List _)[1]? = some _ from rfl) rfl))) HS.out ?_;clear HF a;intro a HF
          refine zh 4 rfl HF (fun _ HS => (yl_move rfl (HF.ev rfl))) HS.out ?_;clear HF a;intro a HF
          refine zh 5 rfl HF (fun _ HS => (yl_indexAddr (e := 9) (i := 2) (size := 1) rfl (HF.ev rfl) (HF.ev rfl) (by kernel_rfl) rfl (by omega))) HS.out ?_;clear HF a;intro a HF
          refine zh 6 rfl HF (fun _ HS => (ylo (v := .string y2) rfl (HF.ev rfl) (HS.elem1 encS_len 0 rfl (show ([y0, y1, y2, y3, y4] : List _)[2]? = some _ from rfl) rfl))) HS.out ?_;clear HF a;intro a HF
          refine zh 7 rfl HF (fun _ HS => (yl_move rfl (HF.ev rfl))) HS.out ?_;clear HF a;intro a HF
          refine zh 8 rfl HF (fun _ HS => (yl_move rfl (HF.ev rfl))) HS.out ?_;clear HF a;intro a HF
          refine zh 9 rfl HF (fun _ HS => (yl_indexAddr (e := 9) (i := 4) (size := 1) rfl (HF.ev rfl) (HF.ev rfl) (by kernel_rfl) rfl (by omega))) HS.out ?_;clear HF a;intro a HF
          refine zh 10 rfl HF (fun _ HS => (ylo (v := .string y4) rfl (HF.ev rfl) (HS.elem1 encS_len 0 rfl (show ([y0, y1, y2, y3, y4] : List _)[4]? = some _ from rfl) rfl))) HS.out ?_;clear HF a;intro a HF
          refine zh 11 rfl HF (fun _ HS => (yl_build HF rfl (ps := [(0, .int .i64 (n3 : Int)), (1, .string y1), (2, .string y2), (3, .int .i64 (n4 : Int)), (4, .string y4)]) rfl (cs := #[.int .i64 (n3 : Int), .string y1, .string y2, .int .i64 (n4 : Int), .string y4]) (by kernel_rfl))) HS.out ?_;clear HF a;intro a HF
          refine wh_one 12 (by kernel_rfl) ?_
          refine wo_alloc rfl rfl HF rfl rfl rfl (Z := [.int .i64 0, .string ByteArray.empty, .string ByteArray.empty, .int .i64 0, .string ByteArray.empty]) (by kernel_rfl) rfl HS2.out HS.out ?_; clear HF HS HS2 a; intro a w7 b5 HF HS2 HS; replace HS := Bx.mk HS; replace HS2 := Bx.mk HS2; refine ⟨HS.out, ?_⟩
          refine wh_one 13 (by kernel_rfl) ?_
          refine wo_storeBox rfl rfl rfl rfl (HF.ev rfl) (HF.ev rfl) HS2.out 0 rfl (cells_lit [.int .i64 (n3 : Int), .string y1, .string y2, .int .i64 (n4 : Int), .string y4] rfl rfl) (by kernel_rfl) ?_
          clear HS HS2; intro w8 HS2; replace HS2 : Bx (St w0 ([boxA b5 5 53 (.agg #[.int .i64 (n3 : Int), .string y1, .string y2, .int .i64 (n4 : Int), .string y4]), rowA encS 1 9 (.slice (some ⟨g2, 0, none⟩) 5 cp) ([y0, y1, y2, y3, y4]), boxA b1 5 53 (.agg #[.int .i64 0, .string ByteArray.empty, .string ByteArray.empty, .int .i64 0, .string ByteArray.empty])]) _) := ⟨HS2⟩
          have HS : Bx (St w0 ([rowA encS 1 9 (.slice (some ⟨g2, 0, none⟩) 5 cp) ([y0, y1, y2, y3, y4]), boxA b1 5 53 (.agg #[.int .i64 0, .string ByteArray.empty, .string ByteArray.empty, .int .i64 0, .string ByteArray.empty])]) _) := ⟨(HS2.out.erase 0)⟩; refine ⟨HS.out, ?_⟩
          refine wh_done (by kernel_rfl) ?_
          replace HS := HS2; clear HS2
          refine ex_then ?_
          refine wp_seq ?_
          refine wp_sr ?_
          refine zm HF ?_;clear HF a;intro a HF
          refine zy HF (yl_not rfl (HF.ev rfl)) ?_;clear HF a;intro a HF
          refine zm HF ?_;clear HF a;intro a HF
          refine zg HF (yl_move rfl (HF.ev rfl)) ?_;clear HF a;intro a HF
          refine zg HF (yl_not rfl (HF.ev rfl)) ?_;clear HF a;intro a HF
          refine zy HF (yl_pick_f rfl (HF.ev rfl) (HF.ev rfl)) ?_;clear HF a;intro a HF
          refine zm HF ?_;clear HF a;intro a HF
          refine zg HF (ylr (cs := [.int .i64 (n3 : Int), .string y1, .string y2, .int .i64 (n4 : Int), .string y4]) rfl (HF.ev rfl) ((HS.out.box 0 rfl).sub 0 5)) ?_;clear HF a;intro a HF
          refine wl_callBg HF rfl rfl rfl rfl (enter_of Tryz.func92 (by kernel_rfl) rfl) (args := #[.agg #[.int .i64 (n3 : Int), .string y1, .string y2, .int .i64 (n4 : Int), .string y4]]) rfl (v := .string (opB (⟨(n3 : Int), y1, y2, (n4 : Int), y4⟩ : OpD))) (implOpPut_any (⟨(n3 : Int), y1, y2, (n4 : Int), y4⟩ : OpD) _ (HT.out.below HS.out.bel) (HM.out.below HS.out.bel) ⟨by show y1.size ≤ _; omega, by show y2.size ≤ _; omega, by show y4.size ≤ _; omega⟩) rfl rfl HS.out ?_; clear HF HS a; intro w9 a HS HF; replace HS := Bx.mk HS
          refine zg HF (yl_move rfl (HF.ev rfl)) ?_;clear HF a;intro a HF
          refine zg HF (yl_neqS rfl (HF.ev rfl) (HF.ev rfl)) ?_;clear HF a;intro a HF
          refine zy HF (yl_pick_f rfl (HF.ev rfl) (HF.ev rfl)) ?_;clear HF a;intro a HF
          refine wl_ne ?_
          refine HF.cases 61 rfl (fun cc2 _ => ?_) fun cc2 _ => ?_
          · clear HF;rename_i HF
            refine wc_true HF rfl ?_
            refine wp_sr ?_
            refine zy HF (yl_build HF rfl (ps := []) rfl (cs := #[.int .i64 0, .string ByteArray.empty, .string ByteArray.empty, .int .i64 0, .string ByteArray.empty]) (by kernel_rfl)) ?_;clear HF a;intro a HF
            refine wl_storeBox rfl HF rfl rfl (HF.ev rfl) (HF.ev rfl) HS.out 2 rfl (cells_lit [.int .i64 0, .string ByteArray.empty, .string ByteArray.empty, .int .i64 0, .string ByteArray.empty] rfl rfl) (by kernel_rfl) ?_; clear HS; intro w10 HS; replace HS := Bx.mk HS
            have HS : Bx (St w0 ([boxA b5 5 53 (.agg #[.int .i64 (n3 : Int), .string y1, .string y2, .int .i64 (n4 : Int), .string y4]), rowA encS 1 9 (.slice (some ⟨g2, 0, none⟩) 5 cp) ([y0, y1, y2, y3, y4]), boxA b1 5 53 (.agg #[.int .i64 0, .string ByteArray.empty, .string ByteArray.empty, .int .i64 0, .string ByteArray.empty])]) _) := HS
            refine za HF ?_;clear HF a;intro a HF
            refine wl_ne ?_
            refine wp_ret ?_
            refine ex_then_ret ?_
            refine bp_ret2 HF Tryz.results148 (HF.resBox rfl (HS.out.box 2 rfl) (by kernel_rfl)) (HF.res rfl) ?_
            refine .inr ⟨fun o ho hos => ?_, rfl, HS.out.bel⟩
            have hl5 := op_rec ho; have hx2 := opB_160 ho; rw [hos] at hl5 hx2; have hxa := op_small ho; have hxk := hxa.k; have hxt := hxa.a
            have hone := hrec.one hl5
            simp only [List.cons.injEq, and_true] at hone; obtain ⟨z0, z1, z2, z3, z4⟩ := hone
            have e1 : (n3 : Int) = o.fKind := num_one (num_back hg3) ⟨by omega, by omega, z0.symm⟩; have e2 : (n4 : Int) = o.fAt := num_one (num_back hg4) ⟨by omega, by omega, z3.symm⟩
            have e3 : (⟨(n3 : Int), y1, y2, (n4 : Int), y4⟩ : OpD) = o := by rw [e1, e2, z1, z2, z4]
            rw [e3, hos] at cc2; simp at cc2
          · clear HF;rename_i HF
            refine wc_false HF rfl ?_
            refine wp_skip ?_
            refine ex_then ?_
            refine wp_sr ?_
            refine zy HF (ylr (cs := [.int .i64 (n3 : Int), .string y1, .string y2, .int .i64 (n4 : Int), .string y4]) rfl (HF.ev rfl) ((HS.out.box 0 rfl).sub 0 5)) ?_;clear HF a;intro a HF
            refine wl_storeBox rfl HF rfl rfl (HF.ev rfl) (HF.ev rfl) HS.out 2 rfl (cells_lit [.int .i64 (n3 : Int), .string y1, .string y2, .int .i64 (n4 : Int), .string y4] rfl rfl) (by kernel_rfl) ?_; clear HS; intro w11 HS; replace HS := Bx.mk HS
            have HS : Bx (St w0 ([boxA b5 5 53 (.agg #[.int .i64 (n3 : Int), .string y1, .string y2, .int .i64 (n4 : Int), .string y4]), rowA encS 1 9 (.slice (some ⟨g2, 0, none⟩) 5 cp) ([y0, y1, y2, y3, y4]), boxA b1 5 53 (.agg #[.int .i64 (n3 : Int), .string y1, .string y2, .int .i64 (n4 : Int), .string y4])]) _) := HS
            refine za HF ?_;clear HF a;intro a HF
            refine wl_ne ?_
            refine wp_ret ?_
            refine bp_ret2 HF Tryz.results148 (HF.resBox rfl (HS.out.box 2 rfl) (by kernel_rfl)) (HF.res rfl) ?_
            have hrt : opB (⟨(n3 : Int), y1, y2, (n4 : Int), y4⟩ : OpD) = s := bytes_toList (by simpa using cc2)
            have hro : (⟨(n3 : Int), y1, y2, (n4 : Int), y4⟩ : OpD).ok = true := by
                cases ho : (⟨(n3 : Int), y1, y2, (n4 : Int), y4⟩ : OpD).ok with
                | true => rfl
                | false =>
                  rw [opB_no ho] at hrt
                  have := hrec.is
                  rw [← hrt] at this
                  exact absurd (by rw [this]; rfl) (recB_ne y0 [y1, y2, y3, y4])
            exact .inl ⟨_, hro, hrt, rfl, HS.out.bel⟩
        · skip
          refine ⟨_, rfl, ?_⟩; replace HS := Bx.mk (HS.out.later hb);clear hb HF a;intro a HF
          refine zm HF ?_;clear HF a;intro a HF
          refine zy HF (yl_extract rfl (HF.ev rfl) rfl) ?_;clear HF a;intro a HF
          refine zy HF (yl_extract rfl (HF.ev rfl) rfl) ?_;clear HF a;intro a HF
          refine za HF ?_;clear HF a;intro a HF
          refine za HF ?_;clear HF a;intro a HF
          refine wl_ne ?_
          refine wp_seq ?_
          refine wr_heldS (s := [rowA encS 1 9 (.slice (some ⟨g2, 0, none⟩) 5 cp) ([y0, y1, y2, y3, y4]), boxA b1 5 53 (.agg #[.int .i64 0, .string ByteArray.empty, .string ByteArray.empty, .int .i64 0, .string ByteArray.empty])]) (by kernel_rfl) (St.drew (HS.out)) ?_
          have HS2 := Bx.mk HS.out.drew; replace HS := Bx.mk (show St w0 ([rowA encS 1 9 (.slice (some ⟨g2, 0, none⟩) 5 cp) ([y0, y1, y2, y3, y4]), boxA b1 5 53 (.agg #[.int .i64 0, .string ByteArray.empty, .string ByteArray.empty, .int .i64 0, .string ByteArray.empty])]) _ from HS.out.drew)
          generalize World.drew _ = w12 at HS HS2 ⊢
          refine zh 0 rfl HF (fun _ HS => (yl_move rfl (HF.ev rfl))) HS.out ?_;clear HF a;intro a HF
          refine zh 1 rfl HF (fun _ HS => (yl_move rfl (HF.ev rfl))) HS.out ?_;clear HF a;intro a HF
          refine zh 2 rfl HF (fun _ HS => (yl_indexAddr (e := 9) (i := 1) (size := 1) rfl (HF.ev rfl) (HF.ev rfl) (by kernel_rfl) rfl (by omega))) HS.out ?_;clear HF a;intro a HF
          refine zh 3 rfl HF (fun _ HS => (ylo (v := .string y1) rfl (HF.ev rfl) (HS.elem1 encS_len 0 rfl (show ([y0, y1, y2, y3, y4] : List _)[1]? = some _ from rfl) rfl))) HS.out ?_;clear HF a;intro a HF
          refine zh 4 rfl HF (fun _ HS => (yl_move rfl (HF.ev rfl))) HS.out ?_;clear HF a;intro a HF
          refine zh 5 rfl HF (fun _ HS => (yl_indexAddr (e := 9) (i := 2) (size := 1) rfl (HF.ev rfl) (HF.ev rfl) (by kernel_rfl) rfl (by omega))) HS.out ?_;clear HF a;intro a HF
          refine zh 6 rfl HF (fun _ HS => (ylo (v := .string y2) rfl (HF.ev rfl) (HS.elem1 encS_len 0 rfl (show ([y0, y1, y2, y3, y4] : List _)[2]? = some _ from rfl) rfl))) HS.out ?_;clear HF a;intro a HF
          refine zh 7 rfl HF (fun _ HS => (yl_move rfl (HF.ev rfl))) HS.out ?_;clear HF a;intro a HF
          refine zh 8 rfl HF (fun _ HS => (yl_move rfl (HF.ev rfl))) HS.out ?_;clear HF a;intro a HF
          refine zh 9 rfl HF (fun _ HS => (yl_indexAddr (e := 9) (i := 4) (size := 1) rfl (HF.ev rfl) (HF.ev rfl) (by kernel_rfl) rfl (by omega))) HS.out ?_;clear HF a;intro a HF
          refine zh 10 rfl HF (fun _ HS => (ylo (v := .string y4) rfl (HF.ev rfl) (HS.elem1 encS_len 0 rfl (show ([y0, y1, y2, y3, y4] : List _)[4]? = some _ from rfl) rfl))) HS.out ?_;clear HF a;intro a HF
          refine zh 11 rfl HF (fun _ HS => (yl_build HF rfl (ps := [(0, .int .i64 (n3 : Int)), (1, .string y1), (2, .string y2), (3, .int .i64 0), (4, .string y4)]) rfl (cs := #[.int .i64 (n3 : Int), .string y1, .string y2, .int .i64 0, .string y4]) (by kernel_rfl))) HS.out ?_;clear HF a;intro a HF
          refine wh_one 12 (by kernel_rfl) ?_
          refine wo_alloc rfl rfl HF rfl rfl rfl (Z := [.int .i64 0, .string ByteArray.empty, .string ByteArray.empty, .int .i64 0, .string ByteArray.empty]) (by kernel_rfl) rfl HS2.out HS.out ?_; clear HF HS HS2 a; intro a w13 b6 HF HS2 HS; replace HS := Bx.mk HS; replace HS2 := Bx.mk HS2; refine ⟨HS.out, ?_⟩
          refine wh_one 13 (by kernel_rfl) ?_
          refine wo_storeBox rfl rfl rfl rfl (HF.ev rfl) (HF.ev rfl) HS2.out 0 rfl (cells_lit [.int .i64 (n3 : Int), .string y1, .string y2, .int .i64 0, .string y4] rfl rfl) (by kernel_rfl) ?_
          clear HS HS2; intro w14 HS2; replace HS2 : Bx (St w0 ([boxA b6 5 53 (.agg #[.int .i64 (n3 : Int), .string y1, .string y2, .int .i64 0, .string y4]), rowA encS 1 9 (.slice (some ⟨g2, 0, none⟩) 5 cp) ([y0, y1, y2, y3, y4]), boxA b1 5 53 (.agg #[.int .i64 0, .string ByteArray.empty, .string ByteArray.empty, .int .i64 0, .string ByteArray.empty])]) _) := ⟨HS2⟩
          have HS : Bx (St w0 ([rowA encS 1 9 (.slice (some ⟨g2, 0, none⟩) 5 cp) ([y0, y1, y2, y3, y4]), boxA b1 5 53 (.agg #[.int .i64 0, .string ByteArray.empty, .string ByteArray.empty, .int .i64 0, .string ByteArray.empty])]) _) := ⟨(HS2.out.erase 0)⟩; refine ⟨HS.out, ?_⟩
          refine wh_done (by kernel_rfl) ?_
          replace HS := HS2; clear HS2
          refine ex_then ?_
          refine wp_seq ?_
          refine wp_sr ?_
          refine zm HF ?_;clear HF a;intro a HF
          refine zy HF (yl_not rfl (HF.ev rfl)) ?_;clear HF a;intro a HF
          refine zm HF ?_;clear HF a;intro a HF
          refine zg HF (yl_move rfl (HF.ev rfl)) ?_;clear HF a;intro a HF
          refine zg HF (yl_not rfl (HF.ev rfl)) ?_;clear HF a;intro a HF
          refine zy HF (yl_pick_f rfl (HF.ev rfl) (HF.ev rfl)) ?_;clear HF a;intro a HF
          refine zm HF ?_;clear HF a;intro a HF
          refine zk HF ?_;clear HF a;intro a HF
          refine zk HF ?_;clear HF a;intro a HF
          refine zk HF ?_;clear HF a;intro a HF
          refine zk HF ?_;clear HF a;intro a HF
          refine zy HF (yl_pick_t rfl (HF.ev rfl) (HF.ev rfl)) ?_;clear HF a;intro a HF
          refine wl_ne ?_
          refine wc_true HF rfl ?_
          refine wp_sr ?_
          refine zy HF (yl_build HF rfl (ps := []) rfl (cs := #[.int .i64 0, .string ByteArray.empty, .string ByteArray.empty, .int .i64 0, .string ByteArray.empty]) (by kernel_rfl)) ?_;clear HF a;intro a HF
          refine wl_storeBox rfl HF rfl rfl (HF.ev rfl) (HF.ev rfl) HS.out 2 rfl (cells_lit [.int .i64 0, .string ByteArray.empty, .string ByteArray.empty, .int .i64 0, .string ByteArray.empty] rfl rfl) (by kernel_rfl) ?_; clear HS; intro w15 HS; replace HS := Bx.mk HS
          have HS : Bx (St w0 ([boxA b6 5 53 (.agg #[.int .i64 (n3 : Int), .string y1, .string y2, .int .i64 0, .string y4]), rowA encS 1 9 (.slice (some ⟨g2, 0, none⟩) 5 cp) ([y0, y1, y2, y3, y4]), boxA b1 5 53 (.agg #[.int .i64 0, .string ByteArray.empty, .string ByteArray.empty, .int .i64 0, .string ByteArray.empty])]) _) := HS
          refine za HF ?_;clear HF a;intro a HF
          refine wl_ne ?_
          refine wp_ret ?_
          refine ex_then_ret ?_
          refine bp_ret2 HF Tryz.results148 (HF.resBox rfl (HS.out.box 2 rfl) (by kernel_rfl)) (HF.res rfl) ?_
          refine .inr ⟨fun o ho hos => ?_, rfl, HS.out.bel⟩
          have hl5 := op_rec ho; have hx2 := opB_160 ho; rw [hos] at hl5 hx2; have hxa := op_small ho; have hxk := hxa.k; have hxt := hxa.a
          have hone := hrec.one hl5
          simp only [List.cons.injEq, and_true] at hone; obtain ⟨z0, z1, z2, z3, z4⟩ := hone
          exact no_numk (n := o.fAt) (by omega) z3 hg4
      · skip
        refine ⟨_, rfl, ?_⟩; replace HS := Bx.mk (HS.out.later hb);clear hb HF a;intro a HF
        refine zm HF ?_;clear HF a;intro a HF
        refine zy HF (yl_extract rfl (HF.ev rfl) rfl) ?_;clear HF a;intro a HF
        refine zy HF (yl_extract rfl (HF.ev rfl) rfl) ?_;clear HF a;intro a HF
        refine za HF ?_;clear HF a;intro a HF
        refine za HF ?_;clear HF a;intro a HF
        refine wl_ne ?_
        refine wp_sr ?_
        refine zm HF ?_;clear HF a;intro a HF
        refine zy HF (yl_indexAddr (e := 9) (i := 3) (size := 1) rfl (HF.ev rfl) (HF.ev rfl) (by kernel_rfl) rfl (by omega)) ?_;clear HF a;intro a HF
        refine zy HF (ylo (v := .string y3) rfl (HF.ev rfl) (HS.out.elem1 encS_len 0 rfl (show ([y0, y1, y2, y3, y4] : List _)[3]? = some _ from rfl) rfl)) ?_;clear HF a;intro a HF
        refine wl_call rfl HF rfl (enter_of Tryz.func143 (by kernel_rfl) rfl) (args := #[.string y3]) rfl (implNumGet_any y3 _ (HT.out.below HS.out.bel) (HE.out.below HS.out.bel)) rfl rfl ?_
        rintro _ w16 (⟨n7, hg7, rfl, hb⟩ | ⟨hg7, rfl, hb⟩)
        · skip
          refine ⟨_, rfl, ?_⟩; replace HS := Bx.mk (HS.out.later hb);clear hb HF a;intro a HF
          refine zm HF ?_;clear HF a;intro a HF
          refine zy HF (yl_extract rfl (HF.ev rfl) rfl) ?_;clear HF a;intro a HF
          refine zy HF (yl_extract rfl (HF.ev rfl) rfl) ?_;clear HF a;intro a HF
          refine za HF ?_;clear HF a;intro a HF
          refine za HF ?_;clear HF a;intro a HF
          refine wl_ne ?_
          refine wp_seq ?_
          refine wr_heldS (s := [rowA encS 1 9 (.slice (some ⟨g2, 0, none⟩) 5 cp) ([y0, y1, y2, y3, y4]), boxA b1 5 53 (.agg #[.int .i64 0, .string ByteArray.empty, .string ByteArray.empty, .int .i64 0, .string ByteArray.empty])]) (by kernel_rfl) (St.drew (HS.out)) ?_
          have HS2 := Bx.mk HS.out.drew; replace HS := Bx.mk (show St w0 ([rowA encS 1 9 (.slice (some ⟨g2, 0, none⟩) 5 cp) ([y0, y1, y2, y3, y4]), boxA b1 5 53 (.agg #[.int .i64 0, .string ByteArray.empty, .string ByteArray.empty, .int .i64 0, .string ByteArray.empty])]) _ from HS.out.drew)
          generalize World.drew _ = w17 at HS HS2 ⊢
          refine zh 0 rfl HF (fun _ HS => (yl_move rfl (HF.ev rfl))) HS.out ?_;clear HF a;intro a HF
          refine zh 1 rfl HF (fun _ HS => (yl_move rfl (HF.ev rfl))) HS.out ?_;clear HF a;intro a HF
          refine zh 2 rfl HF (fun _ HS => (yl_indexAddr (e := 9) (i := 1) (size := 1) rfl (HF.ev rfl) (HF.ev rfl) (by kernel_rfl) rfl (by omega))) HS.out ?_;clear HF a;intro a HF
          refine zh 3 rfl HF (fun _ HS => (ylo (v := .string y1) rfl (HF.ev rfl) (HS.elem1 encS_len 0 rfl (show ([y0, y1, y2, y3, y4] : List _)[1]? = some _ from rfl) rfl))) HS.out ?_;clear HF a;intro a HF
          refine zh 4 rfl HF (fun _ HS => (yl_move rfl (HF.ev rfl))) HS.out ?_;clear HF a;intro a HF
          refine zh 5 rfl HF (fun _ HS => (yl_indexAddr (e := 9) (i := 2) (size := 1) rfl (HF.ev rfl) (HF.ev rfl) (by kernel_rfl) rfl (by omega))) HS.out ?_;clear HF a;intro a HF
          refine zh 6 rfl HF (fun _ HS => (ylo (v := .string y2) rfl (HF.ev rfl) (HS.elem1 encS_len 0 rfl (show ([y0, y1, y2, y3, y4] : List _)[2]? = some _ from rfl) rfl))) HS.out ?_;clear HF a;intro a HF
          refine zh 7 rfl HF (fun _ HS => (yl_move rfl (HF.ev rfl))) HS.out ?_;clear HF a;intro a HF
          refine zh 8 rfl HF (fun _ HS => (yl_move rfl (HF.ev rfl))) HS.out ?_;clear HF a;intro a HF
          refine zh 9 rfl HF (fun _ HS => (yl_indexAddr (e := 9) (i := 4) (size := 1) rfl (HF.ev rfl) (HF.ev rfl) (by kernel_rfl) rfl (by omega))) HS.out ?_;clear HF a;intro a HF
          refine zh 10 rfl HF (fun _ HS => (ylo (v := .string y4) rfl (HF.ev rfl) (HS.elem1 encS_len 0 rfl (show ([y0, y1, y2, y3, y4] : List _)[4]? = some _ from rfl) rfl))) HS.out ?_;clear HF a;intro a HF
          refine zh 11 rfl HF (fun _ HS => (yl_build HF rfl (ps := [(0, .int .i64 0), (1, .string y1), (2, .string y2), (3, .int .i64 (n7 : Int)), (4, .string y4)]) rfl (cs := #[.int .i64 0, .string y1, .string y2, .int .i64 (n7 : Int), .string y4]) (by kernel_rfl))) HS.out ?_;clear HF a;intro a HF
          refine wh_one 12 (by kernel_rfl) ?_
          refine wo_alloc rfl rfl HF rfl rfl rfl (Z := [.int .i64 0, .string ByteArray.empty, .string ByteArray.empty, .int .i64 0, .string ByteArray.empty]) (by kernel_rfl) rfl HS2.out HS.out ?_; clear HF HS HS2 a; intro a w18 b8 HF HS2 HS; replace HS := Bx.mk HS; replace HS2 := Bx.mk HS2; refine ⟨HS.out, ?_⟩
          refine wh_one 13 (by kernel_rfl) ?_
          refine wo_storeBox rfl rfl rfl rfl (HF.ev rfl) (HF.ev rfl) HS2.out 0 rfl (cells_lit [.int .i64 0, .string y1, .string y2, .int .i64 (n7 : Int), .string y4] rfl rfl) (by kernel_rfl) ?_
          clear HS HS2; intro w19 HS2; replace HS2 : Bx (St w0 ([boxA b8 5 53 (.agg #[.int .i64 0, .string y1, .string y2, .int .i64 (n7 : Int), .string y4]), rowA encS 1 9 (.slice (some ⟨g2, 0, none⟩) 5 cp) ([y0, y1, y2, y3, y4]), boxA b1 5 53 (.agg #[.int .i64 0, .string ByteArray.empty, .string ByteArray.empty, .int .i64 0, .string ByteArray.empty])]) _) := ⟨HS2⟩
          have HS : Bx (St w0 ([rowA encS 1 9 (.slice (some ⟨g2, 0, none⟩) 5 cp) ([y0, y1, y2, y3, y4]), boxA b1 5 53 (.agg #[.int .i64 0, .string ByteArray.empty, .string ByteArray.empty, .int .i64 0, .string ByteArray.empty])]) _) := ⟨(HS2.out.erase 0)⟩; refine ⟨HS.out, ?_⟩
          refine wh_done (by kernel_rfl) ?_
          replace HS := HS2; clear HS2
          refine ex_then ?_
          refine wp_seq ?_
          refine wp_sr ?_
          refine zm HF ?_;clear HF a;intro a HF
          refine zy HF (yl_not rfl (HF.ev rfl)) ?_;clear HF a;intro a HF
          refine zm HF ?_;clear HF a;intro a HF
          refine zk HF ?_;clear HF a;intro a HF
          refine zk HF ?_;clear HF a;intro a HF
          refine zy HF (yl_pick_t rfl (HF.ev rfl) (HF.ev rfl)) ?_;clear HF a;intro a HF
          refine zm HF ?_;clear HF a;intro a HF
          refine zk HF ?_;clear HF a;intro a HF
          refine zk HF ?_;clear HF a;intro a HF
          refine zk HF ?_;clear HF a;intro a HF
          refine zk HF ?_;clear HF a;intro a HF
          refine zy HF (yl_pick_t rfl (HF.ev rfl) (HF.ev rfl)) ?_;clear HF a;intro a HF
          refine wl_ne ?_
          refine wc_true HF rfl ?_
          refine wp_sr ?_
          refine zy HF (yl_build HF rfl (ps := []) rfl (cs := #[.int .i64 0, .string ByteArray.empty, .string ByteArray.empty, .int .i64 0, .string ByteArray.empty]) (by kernel_rfl)) ?_;clear HF a;intro a HF
          refine wl_storeBox rfl HF rfl rfl (HF.ev rfl) (HF.ev rfl) HS.out 2 rfl (cells_lit [.int .i64 0, .string ByteArray.empty, .string ByteArray.empty, .int .i64 0, .string ByteArray.empty] rfl rfl) (by kernel_rfl) ?_; clear HS; intro w20 HS; replace HS := Bx.mk HS
          have HS : Bx (St w0 ([boxA b8 5 53 (.agg #[.int .i64 0, .string y1, .string y2, .int .i64 (n7 : Int), .string y4]), rowA encS 1 9 (.slice (some ⟨g2, 0, none⟩) 5 cp) ([y0, y1, y2, y3, y4]), boxA b1 5 53 (.agg #[.int .i64 0, .string ByteArray.empty, .string ByteArray.empty, .int .i64 0, .string ByteArray.empty])]) _) := HS
          refine za HF ?_;clear HF a;intro a HF
          refine wl_ne ?_
          refine wp_ret ?_
          refine ex_then_ret ?_
          refine bp_ret2 HF Tryz.results148 (HF.resBox rfl (HS.out.box 2 rfl) (by kernel_rfl)) (HF.res rfl) ?_
          refine .inr ⟨fun o ho hos => ?_, rfl, HS.out.bel⟩
          have hl5 := op_rec ho; have hx2 := opB_160 ho; rw [hos] at hl5 hx2; have hxa := op_small ho; have hxk := hxa.k; have hxt := hxa.a
          have hone := hrec.one hl5
          simp only [List.cons.injEq, and_true] at hone; obtain ⟨z0, z1, z2, z3, z4⟩ := hone
          exact no_numk (n := o.fKind) (by omega) z0 hg3
        · skip
          refine ⟨_, rfl, ?_⟩; replace HS := Bx.mk (HS.out.later hb);clear hb HF a;intro a HF
          refine zm HF ?_;clear HF a;intro a HF
          refine zy HF (yl_extract rfl (HF.ev rfl) rfl) ?_;clear HF a;intro a HF
          refine zy HF (yl_extract rfl (HF.ev rfl) rfl) ?_;clear HF a;intro a HF
          refine za HF ?_;clear HF a;intro a HF
          refine za HF ?_;clear HF a;intro a HF
          refine wl_ne ?_
          refine wp_seq ?_
          refine wr_heldS (s := [rowA encS 1 9 (.slice (some ⟨g2, 0, none⟩) 5 cp) ([y0, y1, y2, y3, y4]), boxA b1 5 53 (.agg #[.int .i64 0, .string ByteArray.empty, .string ByteArray.empty, .int .i64 0, .string ByteArray.empty])]) (by kernel_rfl) (St.drew (HS.out)) ?_
          have HS2 := Bx.mk HS.out.drew; replace HS := Bx.mk (show St w0 ([rowA encS 1 9 (.slice (some ⟨g2, 0, none⟩) 5 cp) ([y0, y1, y2, y3, y4]), boxA b1 5 53 (.agg #[.int .i64 0, .string ByteArray.empty, .string ByteArray.empty, .int .i64 0, .string ByteArray.empty])]) _ from HS.out.drew)
          generalize World.drew _ = w21 at HS HS2 ⊢
          refine zh 0 rfl HF (fun _ HS => (yl_move rfl (HF.ev rfl))) HS.out ?_;clear HF a;intro a HF
          refine zh 1 rfl HF (fun _ HS => (yl_move rfl (HF.ev rfl))) HS.out ?_;clear HF a;intro a HF
          refine zh 2 rfl HF (fun _ HS => (yl_indexAddr (e := 9) (i := 1) (size := 1) rfl (HF.ev rfl) (HF.ev rfl) (by kernel_rfl) rfl (by omega))) HS.out ?_;clear HF a;intro a HF
          refine zh 3 rfl HF (fun _ HS => (ylo (v := .string y1) rfl (HF.ev rfl) (HS.elem1 encS_len 0 rfl (show ([y0, y1, y2, y3, y4] : List _)[1]? = some _ from rfl) rfl))) HS.out ?_;clear HF a;intro a HF
          refine zh 4 rfl HF (fun _ HS => (yl_move rfl (HF.ev rfl))) HS.out ?_;clear HF a;intro a HF
          refine zh 5 rfl HF (fun _ HS => (yl_indexAddr (e := 9) (i := 2) (size := 1) rfl (HF.ev rfl) (HF.ev rfl) (by kernel_rfl) rfl (by omega))) HS.out ?_;clear HF a;intro a HF
          refine zh 6 rfl HF (fun _ HS => (ylo (v := .string y2) rfl (HF.ev rfl) (HS.elem1 encS_len 0 rfl (show ([y0, y1, y2, y3, y4] : List _)[2]? = some _ from rfl) rfl))) HS.out ?_;clear HF a;intro a HF
          refine zh 7 rfl HF (fun _ HS => (yl_move rfl (HF.ev rfl))) HS.out ?_;clear HF a;intro a HF
          refine zh 8 rfl HF (fun _ HS => (yl_move rfl (HF.ev rfl))) HS.out ?_;clear HF a;intro a HF
          refine zh 9 rfl HF (fun _ HS => (yl_indexAddr (e := 9) (i := 4) (size := 1) rfl (HF.ev rfl) (HF.ev rfl) (by kernel_rfl) rfl (by omega))) HS.out ?_;clear HF a;intro a HF
          refine zh 10 rfl HF (fun _ HS => (ylo (v := .string y4) rfl (HF.ev rfl) (HS.elem1 encS_len 0 rfl (show ([y0, y1, y2, y3, y4] : List _)[4]? = some _ from rfl) rfl))) HS.out ?_;clear HF a;intro a HF
          refine zh 11 rfl HF (fun _ HS => (yl_build HF rfl (ps := [(0, .int .i64 0), (1, .string y1), (2, .string y2), (3, .int .i64 0), (4, .string y4)]) rfl (cs := #[.int .i64 0, .string y1, .string y2, .int .i64 0, .string y4]) (by kernel_rfl))) HS.out ?_;clear HF a;intro a HF
          refine wh_one 12 (by kernel_rfl) ?_
          refine wo_alloc rfl rfl HF rfl rfl rfl (Z := [.int .i64 0, .string ByteArray.empty, .string ByteArray.empty, .int .i64 0, .string ByteArray.empty]) (by kernel_rfl) rfl HS2.out HS.out ?_; clear HF HS HS2 a; intro a w22 b9 HF HS2 HS; replace HS := Bx.mk HS; replace HS2 := Bx.mk HS2; refine ⟨HS.out, ?_⟩
          refine wh_one 13 (by kernel_rfl) ?_
          refine wo_storeBox rfl rfl rfl rfl (HF.ev rfl) (HF.ev rfl) HS2.out 0 rfl (cells_lit [.int .i64 0, .string y1, .string y2, .int .i64 0, .string y4] rfl rfl) (by kernel_rfl) ?_
          clear HS HS2; intro w23 HS2; replace HS2 : Bx (St w0 ([boxA b9 5 53 (.agg #[.int .i64 0, .string y1, .string y2, .int .i64 0, .string y4]), rowA encS 1 9 (.slice (some ⟨g2, 0, none⟩) 5 cp) ([y0, y1, y2, y3, y4]), boxA b1 5 53 (.agg #[.int .i64 0, .string ByteArray.empty, .string ByteArray.empty, .int .i64 0, .string ByteArray.empty])]) _) := ⟨HS2⟩
          have HS : Bx (St w0 ([rowA encS 1 9 (.slice (some ⟨g2, 0, none⟩) 5 cp) ([y0, y1, y2, y3, y4]), boxA b1 5 53 (.agg #[.int .i64 0, .string ByteArray.empty, .string ByteArray.empty, .int .i64 0, .string ByteArray.empty])]) _) := ⟨(HS2.out.erase 0)⟩; refine ⟨HS.out, ?_⟩
          refine wh_done (by kernel_rfl) ?_
          replace HS := HS2; clear HS2
          refine ex_then ?_
          refine wp_seq ?_
          refine wp_sr ?_
          refine zm HF ?_;clear HF a;intro a HF
          refine zy HF (yl_not rfl (HF.ev rfl)) ?_;clear HF a;intro a HF
          refine zm HF ?_;clear HF a;intro a HF
          refine zk HF ?_;clear HF a;intro a HF
          refine zk HF ?_;clear HF a;intro a HF
          refine zy HF (yl_pick_t rfl (HF.ev rfl) (HF.ev rfl)) ?_;clear HF a;intro a HF
          refine zm HF ?_;clear HF a;intro a HF
          refine zk HF ?_;clear HF a;intro a HF
          refine zk HF ?_;clear HF a;intro a HF
          refine zk HF ?_;clear HF a;intro a HF
          refine zk HF ?_;clear HF a;intro a HF
          refine zy HF (yl_pick_t rfl (HF.ev rfl) (HF.ev rfl)) ?_;clear HF a;intro a HF
          refine wl_ne ?_
          refine wc_true HF rfl ?_
          refine wp_sr ?_
          refine zy HF (yl_build HF rfl (ps := []) rfl (cs := #[.int .i64 0, .string ByteArray.empty, .string ByteArray.empty, .int .i64 0, .string ByteArray.empty]) (by kernel_rfl)) ?_;clear HF a;intro a HF
          refine wl_storeBox rfl HF rfl rfl (HF.ev rfl) (HF.ev rfl) HS.out 2 rfl (cells_lit [.int .i64 0, .string ByteArray.empty, .string ByteArray.empty, .int .i64 0, .string ByteArray.empty] rfl rfl) (by kernel_rfl) ?_; clear HS; intro w24 HS; replace HS := Bx.mk HS
          have HS : Bx (St w0 ([boxA b9 5 53 (.agg #[.int .i64 0, .string y1, .string y2, .int .i64 0, .string y4]), rowA encS 1 9 (.slice (some ⟨g2, 0, none⟩) 5 cp) ([y0, y1, y2, y3, y4]), boxA b1 5 53 (.agg #[.int .i64 0, .string ByteArray.empty, .string ByteArray.empty, .int .i64 0, .string ByteArray.empty])]) _) := HS
          refine za HF ?_;clear HF a;intro a HF
          refine wl_ne ?_
          refine wp_ret ?_
          refine ex_then_ret ?_
          refine bp_ret2 HF Tryz.results148 (HF.resBox rfl (HS.out.box 2 rfl) (by kernel_rfl)) (HF.res rfl) ?_
          refine .inr ⟨fun o ho hos => ?_, rfl, HS.out.bel⟩
          have hl5 := op_rec ho; have hx2 := opB_160 ho; rw [hos] at hl5 hx2; have hxa := op_small ho; have hxk := hxa.k; have hxt := hxa.a
          have hone := hrec.one hl5
          simp only [List.cons.injEq, and_true] at hone; obtain ⟨z0, z1, z2, z3, z4⟩ := hone
          exact no_numk (n := o.fKind) (by omega) z0 hg3
  · skip
    refine ⟨_, rfl, ?_⟩; replace HS := Bx.mk (HS.out.later hb);clear hb HF a;intro a HF
    refine zm HF ?_;clear HF a;intro a HF
    refine zy HF (yl_extract rfl (HF.ev rfl) rfl) ?_;clear HF a;intro a HF
    refine zy HF (yl_extract rfl (HF.ev rfl) rfl) ?_;clear HF a;intro a HF
    refine za HF ?_;clear HF a;intro a HF
    refine za HF ?_;clear HF a;intro a HF
    refine wl_ne ?_
    refine wp_seq ?_
    refine wp_sr ?_
    refine zm HF ?_;clear HF a;intro a HF
    refine zy HF (yl_not rfl (HF.ev rfl)) ?_;clear HF a;intro a HF
    refine zm HF ?_;clear HF a;intro a HF
    refine zk HF ?_;clear HF a;intro a HF
    refine zk HF ?_;clear HF a;intro a HF
    refine zk HF ?_;clear HF a;intro a HF
    refine zy HF (yl_pick_t rfl (HF.ev rfl) (HF.ev rfl)) ?_;clear HF a;intro a HF
    refine wl_ne ?_
    refine wc_true HF rfl ?_
    refine wp_sr ?_
    refine zy HF (yl_build HF rfl (ps := []) rfl (cs := #[.int .i64 0, .string ByteArray.empty, .string ByteArray.empty, .int .i64 0, .string ByteArray.empty]) (by kernel_rfl)) ?_;clear HF a;intro a HF
    refine wl_storeBox rfl HF rfl rfl (HF.ev rfl) (HF.ev rfl) HS.out 0 rfl (cells_lit [.int .i64 0, .string ByteArray.empty, .string ByteArray.empty, .int .i64 0, .string ByteArray.empty] rfl rfl) (by kernel_rfl) ?_; clear HS; intro w25 HS; replace HS := Bx.mk HS
    have HS : Bx (St w0 ([boxA b1 5 53 (.agg #[.int .i64 0, .string ByteArray.empty, .string ByteArray.empty, .int .i64 0, .string ByteArray.empty])]) _) := HS
    refine za HF ?_;clear HF a;intro a HF
    refine wl_ne ?_
    refine wp_ret ?_
    refine ex_then_ret ?_
    refine bp_ret2 HF Tryz.results148 (HF.resBox rfl (HS.out.box 0 rfl) (by kernel_rfl)) (HF.res rfl) ?_
    refine .inr ⟨fun o ho hos => ?_, rfl, HS.out.bel⟩
    have hl5 := op_rec ho; have hx2 := opB_160 ho; rw [hos] at hl5 hx2; have hxa := op_small ho; have hxk := hxa.k; have hxt := hxa.a
    exact hno _ hl5 (by omega)

theorem nums2_any (w0 w : World) (hT : TabP w0) (hM : MaxP w0) (hE : ErrP w0) (b gf cf cf2 gt ct : Nat) (y0 y1 y2 y3 y4 y5 : ByteArray) (c0 c1 c2 c3 c4 c5 c6 c7 : Value) (F : List Asr) (hS : St w0 (boxA b 8 55 (.agg #[c0, c1, c2, c3, c4, c5, c6, c7]) :: rowA encS 1 9 (.slice (some ⟨gf, 0, none⟩) 6 cf) ([y0, y1, y2, y3, y4, y5]) :: rowA encA 1 173 (.slice (some ⟨gt, 0, none⟩) 2 ct) ([some ⟨b, 0, none⟩, some ⟨b, 1, none⟩]) :: F) w) : Calls Tryz.prog 149 #[.slice (some ⟨gf, 1, none⟩) 2 cf2, .slice (some ⟨gt, 0, none⟩) 2 ct] w fun e w' => (∃ n1 n2 : Nat, numG y1 = some n1 ∧ numG y2 = some n2 ∧ e = .returned (.bool true) ∧ St w0 (boxA b 8 55 (.agg #[(.int .i64 (n1 : Int)), (.int .i64 (n2 : Int)), c2, c3, c4, c5, c6, c7]) :: rowA encS 1 9 (.slice (some ⟨gf, 0, none⟩) 6 cf) ([y0, y1, y2, y3, y4, y5]) :: rowA encA 1 173 (.slice (some ⟨gt, 0, none⟩) 2 ct) ([some ⟨b, 0, none⟩, some ⟨b, 1, none⟩]) :: F) w') ∨ (numG y1 = none ∧ e = .returned (.bool false) ∧ St w0 F w') ∨ (numG y2 = none ∧ e = .returned (.bool false) ∧ St w0 F w') := by
 have HT := Bx.mk hT; have HM := Bx.mk hM; have HE := Bx.mk hE; clear hT hM hE
 have HS := Bx.mk hS; clear hS
 refine wc_enter Tryz.func149 rfl Tryz.ntmps149 [(0, .slice (some ⟨gf, 1, none⟩) 2 cf2), (1, .slice (some ⟨gt, 0, none⟩) 2 ct)] ⟨rfl, rfl, trivial⟩ rfl ?_; intro a HF
 refine wp_sr ?_
 refine za HF ?_;clear HF a;intro a HF
 refine wl_ne ?_
 refine wp_seq ?_
 refine wp_sr ?_
 refine zm HF ?_;clear HF a;intro a HF
 refine zy HF (yl_lenL (e := 173) (size := 1) rfl (HF.ev rfl) (by kernel_rfl)) ?_;clear HF a;intro a HF
 refine zm HF ?_;clear HF a;intro a HF
 refine wl_ne ?_
 refine wp_block ?_
 refine wc_rounds 4 ?_
 refine wp_sr ?_
 refine zy HF (yl_lssI rfl (HF.ev rfl) (HF.ev rfl)) ?_;clear HF a;intro a HF
 refine wl_ne ?_
 refine wp_seq ?_
 replace HF := HF.know (k := 12) (c := true) rfl (by decide)
 refine wc_true HF rfl ?_
 refine wp_skip ?_
 refine ex_then ?_
 refine wp_seq ?_
 refine wp_block ?_
 refine wp_sr ?_
 refine zm HF ?_;clear HF a;intro a HF
 refine zy HF (yl_indexAddr (e := 173) (i := 0) (size := 1) rfl (HF.ev rfl) (HF.ev rfl) (by kernel_rfl) rfl (by omega)) ?_;clear HF a;intro a HF
 refine zy HF (ylo (v := .pointer (some ⟨b, 0, none⟩)) rfl (HF.ev rfl) (HS.out.elem1 encA_len 2 rfl (show ([some ⟨b, 0, none⟩, some ⟨b, 1, none⟩] : List (Option Addr))[0]? = some _ from rfl) rfl)) ?_;clear HF a;intro a HF
 refine za HF ?_;clear HF a;intro a HF
 refine za HF ?_;clear HF a;intro a HF
 refine wl_ne ?_
 refine wp_sr ?_
 refine zm HF ?_;clear HF a;intro a HF
 refine zm HF ?_;clear HF a;intro a HF
 refine zy HF (yl_indexAddr (e := 9) (i := 0) (size := 1) rfl (HF.ev rfl) (HF.ev rfl) (by kernel_rfl) rfl (by omega)) ?_;clear HF a;intro a HF
 refine zy HF (ylo (v := .string y1) rfl (HF.ev rfl) (HS.out.elem1 encS_len 1 rfl (show ([y0, y1, y2, y3, y4, y5] : List _)[1]? = some _ from rfl) rfl)) ?_;clear HF a;intro a HF
 refine wl_call rfl HF rfl (enter_of Tryz.func143 (by kernel_rfl) rfl) (args := #[.string y1]) rfl (implNumGet_any y1 _ (HT.out.below HS.out.bel) (HE.out.below HS.out.bel)) rfl rfl ?_
 rintro _ w1 (⟨n1, hg1, rfl, hb⟩ | ⟨hg1, rfl, hb⟩)
 ·skip
  refine ⟨_, rfl, ?_⟩; replace HS := Bx.mk (HS.out.later hb);clear hb HF a;intro a HF
  refine zm HF ?_;clear HF a;intro a HF
  refine zy HF (yl_extract rfl (HF.ev rfl) rfl) ?_;clear HF a;intro a HF
  refine zy HF (yl_extract rfl (HF.ev rfl) rfl) ?_;clear HF a;intro a HF
  refine za HF ?_;clear HF a;intro a HF
  refine za HF ?_;clear HF a;intro a HF
  refine wl_ne ?_
  refine wp_seq ?_
  refine wp_sr ?_
  refine zm HF ?_;clear HF a;intro a HF
  refine zy HF (yl_not rfl (HF.ev rfl)) ?_;clear HF a;intro a HF
  refine wl_ne ?_
  refine wc_false HF rfl ?_
  refine wp_skip ?_
  refine ex_then ?_
  refine wp_region_lit ?_
  refine zm HF ?_;clear HF a;intro a HF
  refine zm HF ?_;clear HF a;intro a HF
  refine zy HF (yl_nilCheck rfl (HF.ev rfl)) ?_;clear HF a;intro a HF
  refine wl_storeF rfl rfl rfl (HF.ev rfl) (HF.ev rfl) (by kernel_rfl) HS.out 0 rfl rfl rfl ?_; clear HS; intro w2 HS; replace HS := Bx.mk HS
  have HS : Bx (St w0 (boxA b 8 55 (.agg #[.int .i64 (n1 : Int), c1, c2, c3, c4, c5, c6, c7]) :: rowA encS 1 9 (.slice (some ⟨gf, 0, none⟩) 6 cf) ([y0, y1, y2, y3, y4, y5]) :: rowA encA 1 173 (.slice (some ⟨gt, 0, none⟩) 2 ct) ([some ⟨b, 0, none⟩, some ⟨b, 1, none⟩]) :: F) _) := HS
  refine wpList_nil ?_
  refine ex_block ?_
  refine ex_then ?_
  refine wp_region_lit ?_
  refine zy HF (yl_addI (r := 1) rfl (HF.ev rfl) (HF.ev rfl) (by decide)) ?_;clear HF a;intro a HF
  refine zm HF ?_;clear HF a;intro a HF
  refine wl_ne ?_
  refine wc_round 3 ?_
  refine wp_sr ?_
  refine zy HF (yl_lssI rfl (HF.ev rfl) (HF.ev rfl)) ?_;clear HF a;intro a HF
  refine wl_ne ?_
  refine wp_seq ?_
  replace HF := HF.know (k := 12) (c := true) rfl (by decide)
  refine wc_true HF rfl ?_
  refine wp_skip ?_
  refine ex_then ?_
  refine wp_seq ?_
  refine wp_block ?_
  refine wp_sr ?_
  refine zm HF ?_;clear HF a;intro a HF
  refine zy HF (yl_indexAddr (e := 173) (i := 1) (size := 1) rfl (HF.ev rfl) (HF.ev rfl) (by kernel_rfl) rfl (by omega)) ?_;clear HF a;intro a HF
  refine zy HF (ylo (v := .pointer (some ⟨b, 1, none⟩)) rfl (HF.ev rfl) (HS.out.elem1 encA_len 2 rfl (show ([some ⟨b, 0, none⟩, some ⟨b, 1, none⟩] : List (Option Addr))[1]? = some _ from rfl) rfl)) ?_;clear HF a;intro a HF
  refine za HF ?_;clear HF a;intro a HF
  refine za HF ?_;clear HF a;intro a HF
  refine wl_ne ?_
  refine wp_sr ?_
  refine zm HF ?_;clear HF a;intro a HF
  refine zm HF ?_;clear HF a;intro a HF
  refine zy HF (yl_indexAddr (e := 9) (i := 1) (size := 1) rfl (HF.ev rfl) (HF.ev rfl) (by kernel_rfl) rfl (by omega)) ?_;clear HF a;intro a HF
  refine zy HF (ylo (v := .string y2) rfl (HF.ev rfl) (HS.out.elem1 encS_len 1 rfl (show ([y0, y1, y2, y3, y4, y5] : List _)[2]? = some _ from rfl) rfl)) ?_;clear HF a;intro a HF
  refine wl_call rfl HF rfl (enter_of Tryz.func143 (by kernel_rfl) rfl) (args := #[.string y2]) rfl (implNumGet_any y2 _ (HT.out.below HS.out.bel) (HE.out.below HS.out.bel)) rfl rfl ?_
  rintro _ w3 (⟨n2, hg2, rfl, hb⟩ | ⟨hg2, rfl, hb⟩)
  ·skip
   refine ⟨_, rfl, ?_⟩; replace HS := Bx.mk (HS.out.later hb);clear hb HF a;intro a HF
   refine zm HF ?_;clear HF a;intro a HF
   refine zy HF (yl_extract rfl (HF.ev rfl) rfl) ?_;clear HF a;intro a HF
   refine zy HF (yl_extract rfl (HF.ev rfl) rfl) ?_;clear HF a;intro a HF
   refine za HF ?_;clear HF a;intro a HF
   refine za HF ?_;clear HF a;intro a HF
   refine wl_ne ?_
   refine wp_seq ?_
   refine wp_sr ?_
   refine zm HF ?_;clear HF a;intro a HF
   refine zy HF (yl_not rfl (HF.ev rfl)) ?_;clear HF a;intro a HF
   refine wl_ne ?_
   refine wc_false HF rfl ?_
   refine wp_skip ?_
   refine ex_then ?_
   refine wp_region_lit ?_
   refine zm HF ?_;clear HF a;intro a HF
   refine zm HF ?_;clear HF a;intro a HF
   refine zy HF (yl_nilCheck rfl (HF.ev rfl)) ?_;clear HF a;intro a HF
   refine wl_storeF rfl rfl rfl (HF.ev rfl) (HF.ev rfl) (by kernel_rfl) HS.out 0 rfl rfl rfl ?_; clear HS; intro w4 HS; replace HS := Bx.mk HS
   have HS : Bx (St w0 (boxA b 8 55 (.agg #[.int .i64 (n1 : Int), .int .i64 (n2 : Int), c2, c3, c4, c5, c6, c7]) :: rowA encS 1 9 (.slice (some ⟨gf, 0, none⟩) 6 cf) ([y0, y1, y2, y3, y4, y5]) :: rowA encA 1 173 (.slice (some ⟨gt, 0, none⟩) 2 ct) ([some ⟨b, 0, none⟩, some ⟨b, 1, none⟩]) :: F) _) := HS
   refine wpList_nil ?_
   refine ex_block ?_
   refine ex_then ?_
   refine wp_region_lit ?_
   refine zy HF (yl_addI (r := 2) rfl (HF.ev rfl) (HF.ev rfl) (by decide)) ?_;clear HF a;intro a HF
   refine zm HF ?_;clear HF a;intro a HF
   refine wl_ne ?_
   refine wc_round 2 ?_
   refine wp_sr ?_
   refine zy HF (yl_lssI rfl (HF.ev rfl) (HF.ev rfl)) ?_;clear HF a;intro a HF
   refine wl_ne ?_
   refine wp_seq ?_
   replace HF := HF.know (k := 12) (c := false) rfl (by decide)
   refine wc_false HF rfl ?_
   refine wp_exit ?_
   refine ex_then_exit ?_
   refine ex_then_exit ?_
   refine ex_block_hit ?_
   refine ex_then ?_
   refine wp_sr ?_
   refine za HF ?_;clear HF a;intro a HF
   refine wl_ne ?_
   refine wp_ret ?_
   refine bp_ret1 HF Tryz.results149 (HF.res rfl) ?_
   replace HS:=Bx.mk (((HS.out.pick 2 rfl).pick 2 rfl).pick 2 rfl)
   exact .inl ⟨n1, n2, hg1, hg2, rfl, HS.out⟩
  ·skip
   refine ⟨_, rfl, ?_⟩; replace HS := Bx.mk (HS.out.later hb);clear hb HF a;intro a HF
   refine zm HF ?_;clear HF a;intro a HF
   refine zy HF (yl_extract rfl (HF.ev rfl) rfl) ?_;clear HF a;intro a HF
   refine zy HF (yl_extract rfl (HF.ev rfl) rfl) ?_;clear HF a;intro a HF
   refine za HF ?_;clear HF a;intro a HF
   refine za HF ?_;clear HF a;intro a HF
   refine wl_ne ?_
   refine wp_seq ?_
   refine wp_sr ?_
   refine zm HF ?_;clear HF a;intro a HF
   refine zy HF (yl_not rfl (HF.ev rfl)) ?_;clear HF a;intro a HF
   refine wl_ne ?_
   refine wc_true HF rfl ?_
   refine wp_sr ?_
   refine za HF ?_;clear HF a;intro a HF
   refine wl_ne ?_
   refine wp_ret ?_
   refine ex_then_ret ?_
   refine ex_block_ret ?_
   refine ex_then_ret ?_
   refine ex_then_ret ?_
   refine ex_block_ret ?_
   refine ex_then_ret ?_
   refine bp_ret1 HF Tryz.results149 (HF.res rfl) ?_
   replace HS:=Bx.mk (((HS.out.pick 2 rfl).pick 2 rfl).pick 2 rfl)
   exact .inr (.inr ⟨hg2, rfl, (((HS.out.erase 2).erase 1).erase 0)⟩)
 ·skip
  refine ⟨_, rfl, ?_⟩; replace HS := Bx.mk (HS.out.later hb);clear hb HF a;intro a HF
  refine zm HF ?_;clear HF a;intro a HF
  refine zy HF (yl_extract rfl (HF.ev rfl) rfl) ?_;clear HF a;intro a HF
  refine zy HF (yl_extract rfl (HF.ev rfl) rfl) ?_;clear HF a;intro a HF
  refine za HF ?_;clear HF a;intro a HF
  refine za HF ?_;clear HF a;intro a HF
  refine wl_ne ?_
  refine wp_seq ?_
  refine wp_sr ?_
  refine zm HF ?_;clear HF a;intro a HF
  refine zy HF (yl_not rfl (HF.ev rfl)) ?_;clear HF a;intro a HF
  refine wl_ne ?_
  refine wc_true HF rfl ?_
  refine wp_sr ?_
  refine za HF ?_;clear HF a;intro a HF
  refine wl_ne ?_
  refine wp_ret ?_
  refine ex_then_ret ?_
  refine ex_block_ret ?_
  refine ex_then_ret ?_
  refine ex_then_ret ?_
  refine ex_block_ret ?_
  refine ex_then_ret ?_
  refine bp_ret1 HF Tryz.results149 (HF.res rfl) ?_
  replace HS:=Bx.mk (((HS.out.pick 2 rfl).pick 2 rfl).pick 2 rfl)
  exact .inr (.inl ⟨hg1, rfl, (((HS.out.erase 2).erase 1).erase 0)⟩)

theorem intentGet_any (s : ByteArray) (w0 : World) (hT : TabP w0) (hM : MaxP w0) (hE : ErrP w0) (hs : s.size ≤ 9223372036854775807) : Calls Tryz.prog 105 #[.string s] w0 fun e w' => (∃ x : IntentD, x.ok = true ∧ intentB x = s ∧ e = .returned (.tuple #[.agg #[.int .i64 x.fTxg, .int .i64 x.fSeq, .string x.fHead, .int .i64 x.fOp.fKind, .string x.fOp.fPath, .string x.fOp.fTo, .int .i64 x.fOp.fAt, .string x.fOp.fText], .bool true]) ∧ Below w0.heap.size w0 w') ∨ ((∀ x : IntentD, x.ok = true → intentB x = s → False) ∧ e = .returned (.tuple #[.agg #[.int .i64 0, .int .i64 0, .string ByteArray.empty, .int .i64 0, .string ByteArray.empty, .string ByteArray.empty, .int .i64 0, .string ByteArray.empty], .bool false]) ∧ Below w0.heap.size w0 w') := by
  have HT := Bx.mk hT; have HM := Bx.mk hM; have HE := Bx.mk hE; clear hT hM hE
  have HS := Bx.mk (St.start w0)
  refine wc_enter Tryz.func105 rfl Tryz.ntmps105 [(0, .string s)] ⟨rfl, trivial⟩ rfl ?_; intro a HF
  refine wp_sr ?_
  refine wl_alloc rfl HF rfl rfl rfl (Z := [.int .i64 0, .int .i64 0, .string ByteArray.empty, .int .i64 0, .string ByteArray.empty, .string ByteArray.empty, .int .i64 0, .string ByteArray.empty]) (by kernel_rfl) rfl HS.out ?_; clear HF HS a; intro a w1 b1 HF HS; replace HS := Bx.mk HS
  refine za HF ?_;clear HF a;intro a HF
  refine wl_ne ?_
  refine wp_sr ?_
  refine zm HF ?_;clear HF a;intro a HF
  refine wl_call rfl HF rfl (enter_of Tryz.func142 (by kernel_rfl) rfl) (args := #[.string s]) rfl (fieldsGet_any s _ (HT.out.below HS.out.bel) (HM.out.below HS.out.bel) (HE.out.below HS.out.bel) (by omega)) rfl rfl ?_
  rintro _ w2 (⟨xs, hrec, hsz, ao, cp, rfl, hs1⟩ | ⟨hno, rfl, hb⟩)
  · skip
    refine ⟨_, rfl, ?_⟩; replace HS := Bx.mk (HS.out.add hs1);clear hs1 HF a;intro a HF
    try dsimp only [List.eraseIdx] at HS
    refine zm HF ?_;clear HF a;intro a HF
    refine zy HF (yl_extract rfl (HF.ev rfl) rfl) ?_;clear HF a;intro a HF
    refine zy HF (yl_extract rfl (HF.ev rfl) rfl) ?_;clear HF a;intro a HF
    refine za HF ?_;clear HF a;intro a HF
    refine za HF ?_;clear HF a;intro a HF
    refine wl_ne ?_
    refine wp_seq ?_
    refine wp_sr ?_
    refine zm HF ?_;clear HF a;intro a HF
    refine zy HF (yl_not rfl (HF.ev rfl)) ?_;clear HF a;intro a HF
    refine zm HF ?_;clear HF a;intro a HF
    refine zg HF (yl_move rfl (HF.ev rfl)) ?_;clear HF a;intro a HF
    refine zg HF (yl_lenL (e := 9) (size := 1) rfl (HF.ev rfl) (by kernel_rfl)) ?_;clear HF a;intro a HF
    refine zg HF (yl_neqI rfl (HF.ev rfl) (HF.ev rfl)) ?_;clear HF a;intro a HF
    refine zy HF (yl_pick_f rfl (HF.ev rfl) (HF.ev rfl)) ?_;clear HF a;intro a HF
    refine wl_ne ?_
    refine HF.cases 20 rfl (fun cc1 _ => ?_) fun cc1 _ => ?_
    · clear HF;rename_i HF
      have dcc1 := bne_iff_ne.1 cc1
      refine wc_true HF rfl ?_
      refine wp_sr ?_
      refine zy HF (yl_build HF rfl (ps := []) rfl (cs := #[.int .i64 0, .int .i64 0, .string ByteArray.empty, .int .i64 0, .string ByteArray.empty, .string ByteArray.empty, .int .i64 0, .string ByteArray.empty]) (by kernel_rfl)) ?_;clear HF a;intro a HF
      refine wl_storeBox rfl HF rfl rfl (HF.ev rfl) (HF.ev rfl) HS.out 1 rfl (cells_lit [.int .i64 0, .int .i64 0, .string ByteArray.empty, .int .i64 0, .string ByteArray.empty, .string ByteArray.empty, .int .i64 0, .string ByteArray.empty] rfl rfl) (by kernel_rfl) ?_; clear HS; intro w3 HS; replace HS := Bx.mk HS
      have HS : Bx (St w0 ([rowA encS 1 9 (.slice ao xs.length cp) xs, boxA b1 8 55 (.agg #[.int .i64 0, .int .i64 0, .string ByteArray.empty, .int .i64 0, .string ByteArray.empty, .string ByteArray.empty, .int .i64 0, .string ByteArray.empty])]) _) := HS
      refine za HF ?_;clear HF a;intro a HF
      refine wl_ne ?_
      refine wp_ret ?_
      refine ex_then_ret ?_
      refine bp_ret2 HF Tryz.results105 (HF.resBox rfl (HS.out.box 1 rfl) (by kernel_rfl)) (HF.res rfl) ?_
      refine .inr ⟨fun x hx hxs => ?_, rfl, HS.out.bel⟩
      obtain ⟨l6, hl6, hx2⟩ := int_rec hx; rw [hxs] at hl6 hx2; have hxa := IntentD.ok_parts hx
      have hone := hrec.one hl6
      rw [hone] at dcc1; exact dcc1 rfl
    · clear HF;rename_i HF
      have dcc1 := bne_eq_false_iff_eq.1 cc1
      refine wc_false HF rfl ?_
      refine wp_skip ?_
      refine ex_then ?_
      refine wp_seq ?_
      obtain ⟨y0, y1, y2, y3, y4, y5, rfl⟩ := len6 (l := xs) (by omega)
      replace HF : Fr 54 a [(0, .string s), (2, .pointer (some ⟨b1, 0, none⟩)), (3, .bool false), (10, .string s), (12, .slice ao 6 cp), (13, .bool true), (4, .slice ao 6 cp), (5, .bool true), (14, .bool true), (15, .bool false), (16, .bool false), (17, .slice ao 6 cp), (20, .bool false)] := HF.less _ ⟨rfl, rfl, rfl, rfl, rfl, rfl, rfl, rfl, rfl, rfl, rfl, rfl, rfl, trivial⟩
      try dsimp only [List.eraseIdx] at HS
      obtain ⟨g2, rfl, _, _, _, _⟩ := HS.out.rowOpen 0 rfl (Nat.succ_pos _)
      have hcap := HS.out.capLe 0 rfl
      have hy0 : y0.size ≤ 2048 := by have := recB_elem [y0, y1, y2, y3, y4, y5] (k := 0) (by simp only [List.length_cons, List.length_nil]; omega); rw [hrec.is] at this; have e : ([y0, y1, y2, y3, y4, y5] : List ByteArray).getD 0 ByteArray.empty = y0 := rfl; rw [e] at this; omega
      have hy1 : y1.size ≤ 2048 := by have := recB_elem [y0, y1, y2, y3, y4, y5] (k := 1) (by simp only [List.length_cons, List.length_nil]; omega); rw [hrec.is] at this; have e : ([y0, y1, y2, y3, y4, y5] : List ByteArray).getD 1 ByteArray.empty = y1 := rfl; rw [e] at this; omega
      have hy2 : y2.size ≤ 2048 := by have := recB_elem [y0, y1, y2, y3, y4, y5] (k := 2) (by simp only [List.length_cons, List.length_nil]; omega); rw [hrec.is] at this; have e : ([y0, y1, y2, y3, y4, y5] : List ByteArray).getD 2 ByteArray.empty = y2 := rfl; rw [e] at this; omega
      have hy3 : y3.size ≤ 2048 := by have := recB_elem [y0, y1, y2, y3, y4, y5] (k := 3) (by simp only [List.length_cons, List.length_nil]; omega); rw [hrec.is] at this; have e : ([y0, y1, y2, y3, y4, y5] : List ByteArray).getD 3 ByteArray.empty = y3 := rfl; rw [e] at this; omega
      have hy4 : y4.size ≤ 2048 := by have := recB_elem [y0, y1, y2, y3, y4, y5] (k := 4) (by simp only [List.length_cons, List.length_nil]; omega); rw [hrec.is] at this; have e : ([y0, y1, y2, y3, y4, y5] : List ByteArray).getD 4 ByteArray.empty = y4 := rfl; rw [e] at this; omega
      have hy5 : y5.size ≤ 2048 := by have := recB_elem [y0, y1, y2, y3, y4, y5] (k := 5) (by simp only [List.length_cons, List.length_nil]; omega); rw [hrec.is] at this; have e : ([y0, y1, y2, y3, y4, y5] : List ByteArray).getD 5 ByteArray.empty = y5 := rfl; rw [e] at this; omega
      refine wp_region_lit ?_
      refine zm HF ?_;clear HF a;intro a HF
      refine zy HF (yl_indexAddr (e := 9) (i := 3) (size := 1) rfl (HF.ev rfl) (HF.ev rfl) (by kernel_rfl) rfl (by omega)) ?_;clear HF a;intro a HF
      refine zy HF (ylo (v := .string y3) rfl (HF.ev rfl) (HS.out.elem1 encS_len 0 rfl (show ([y0, y1, y2, y3, y4, y5] : List _)[3]? = some _ from rfl) rfl)) ?_;clear HF a;intro a HF
      refine zy HF (yl_build HF rfl (ps := [(2, .string y3)]) rfl (cs := #[.int .i64 0, .int .i64 0, .string y3, .int .i64 0, .string ByteArray.empty, .string ByteArray.empty, .int .i64 0, .string ByteArray.empty]) (by kernel_rfl)) ?_;clear HF a;intro a HF
      refine wl_alloc rfl HF rfl rfl rfl (Z := [.int .i64 0, .int .i64 0, .string ByteArray.empty, .int .i64 0, .string ByteArray.empty, .string ByteArray.empty, .int .i64 0, .string ByteArray.empty]) (by kernel_rfl) rfl HS.out ?_; clear HF HS a; intro a w4 b3 HF HS; replace HS := Bx.mk HS
      refine wl_storeBox rfl HF rfl rfl (HF.ev rfl) (HF.ev rfl) HS.out 0 rfl (cells_lit [.int .i64 0, .int .i64 0, .string y3, .int .i64 0, .string ByteArray.empty, .string ByteArray.empty, .int .i64 0, .string ByteArray.empty] rfl rfl) (by kernel_rfl) ?_; clear HS; intro w5 HS; replace HS := Bx.mk HS
      have HS : Bx (St w0 ([boxA b3 8 55 (.agg #[.int .i64 0, .int .i64 0, .string y3, .int .i64 0, .string ByteArray.empty, .string ByteArray.empty, .int .i64 0, .string ByteArray.empty]), rowA encS 1 9 (.slice (some ⟨g2, 0, none⟩) 6 cp) ([y0, y1, y2, y3, y4, y5]), boxA b1 8 55 (.agg #[.int .i64 0, .int .i64 0, .string ByteArray.empty, .int .i64 0, .string ByteArray.empty, .string ByteArray.empty, .int .i64 0, .string ByteArray.empty])]) _) := HS
      refine wl_ne ?_
      refine wp_sr ?_
      refine zm HF ?_;clear HF a;intro a HF
      refine zy HF (yl_indexAddr (e := 9) (i := 4) (size := 1) rfl (HF.ev rfl) (HF.ev rfl) (by kernel_rfl) rfl (by omega)) ?_;clear HF a;intro a HF
      refine zy HF (ylo (v := .string y4) rfl (HF.ev rfl) (HS.out.elem1 encS_len 1 rfl (show ([y0, y1, y2, y3, y4, y5] : List _)[4]? = some _ from rfl) rfl)) ?_;clear HF a;intro a HF
      refine wl_call rfl HF rfl (enter_of Tryz.func148 (by kernel_rfl) rfl) (args := #[.string y4]) rfl (opGet_any y4 _ (HT.out.below HS.out.bel) (HM.out.below HS.out.bel) (HE.out.below HS.out.bel) (by omega)) rfl rfl ?_
      rintro _ w6 (⟨o1, hpo, hpt, rfl, hb⟩ | ⟨hpn, rfl, hb⟩)
      · skip
        refine ⟨_, rfl, ?_⟩; replace HS := Bx.mk (HS.out.later hb);clear hb HF a;intro a HF
        refine zm HF ?_;clear HF a;intro a HF
        refine zy HF (yl_extract rfl (HF.ev rfl) rfl) ?_;clear HF a;intro a HF
        refine zy HF (yl_extract rfl (HF.ev rfl) rfl) ?_;clear HF a;intro a HF
        refine wl_alloc rfl HF rfl rfl rfl (Z := [.int .i64 0, .string ByteArray.empty, .string ByteArray.empty, .int .i64 0, .string ByteArray.empty]) (by kernel_rfl) rfl HS.out ?_; clear HF HS a; intro a w7 b4 HF HS; replace HS := Bx.mk HS
        refine wl_storeBox rfl HF rfl rfl (HF.ev rfl) (HF.ev rfl) HS.out 0 rfl (cells_lit [.int .i64 o1.fKind, .string o1.fPath, .string o1.fTo, .int .i64 o1.fAt, .string o1.fText] rfl rfl) (by kernel_rfl) ?_; clear HS; intro w8 HS; replace HS := Bx.mk HS
        have HS : Bx (St w0 ([boxA b4 5 53 (.agg #[.int .i64 o1.fKind, .string o1.fPath, .string o1.fTo, .int .i64 o1.fAt, .string o1.fText]), boxA b3 8 55 (.agg #[.int .i64 0, .int .i64 0, .string y3, .int .i64 0, .string ByteArray.empty, .string ByteArray.empty, .int .i64 0, .string ByteArray.empty]), rowA encS 1 9 (.slice (some ⟨g2, 0, none⟩) 6 cp) ([y0, y1, y2, y3, y4, y5]), boxA b1 8 55 (.agg #[.int .i64 0, .int .i64 0, .string ByteArray.empty, .int .i64 0, .string ByteArray.empty, .string ByteArray.empty, .int .i64 0, .string ByteArray.empty])]) _) := HS
        refine za HF ?_;clear HF a;intro a HF
        refine wl_ne ?_
        refine wp_sr ?_
        refine zy HF (ylr (cs := [.int .i64 o1.fKind, .string o1.fPath, .string o1.fTo, .int .i64 o1.fAt, .string o1.fText]) rfl (HF.ev rfl) ((HS.out.box 0 rfl).sub 0 5)) ?_;clear HF a;intro a HF
        refine zy HF (yfa 3 rfl (HF.ev rfl)) ?_;clear HF a;intro a HF
        refine wl_storeSub rfl rfl rfl (HF.ev rfl) (HF.ev rfl) HS.out 1 rfl (by kernel_rfl) rfl (by kernel_rfl) (rs := [.int .i64 0, .int .i64 0, .string y3, .int .i64 o1.fKind, .string o1.fPath, .string o1.fTo, .int .i64 o1.fAt, .string o1.fText]) rfl ?_; clear HS; intro w9 HS; replace HS := Bx.mk HS
        have HS : Bx (St w0 ([boxA b4 5 53 (.agg #[.int .i64 o1.fKind, .string o1.fPath, .string o1.fTo, .int .i64 o1.fAt, .string o1.fText]), boxA b3 8 55 (.agg #[.int .i64 0, .int .i64 0, .string y3, .int .i64 o1.fKind, .string o1.fPath, .string o1.fTo, .int .i64 o1.fAt, .string o1.fText]), rowA encS 1 9 (.slice (some ⟨g2, 0, none⟩) 6 cp) ([y0, y1, y2, y3, y4, y5]), boxA b1 8 55 (.agg #[.int .i64 0, .int .i64 0, .string ByteArray.empty, .int .i64 0, .string ByteArray.empty, .string ByteArray.empty, .int .i64 0, .string ByteArray.empty])]) _) := HS
        refine wl_ne ?_
        refine wp_seq ?_
        refine wp_sr ?_
        refine zm HF ?_;clear HF a;intro a HF
        refine zy HF (yl_not rfl (HF.ev rfl)) ?_;clear HF a;intro a HF
        refine zm HF ?_;clear HF a;intro a HF
        refine zg HF (yl_move rfl (HF.ev rfl)) ?_;clear HF a;intro a HF
        refine zg HF (yl_sliceLH (e := 9) (size := 1) (k := 1) (j := 3) rfl (HF.ev rfl) (HF.ev rfl) (HF.ev rfl) (by kernel_rfl) rfl rfl (by decide) (by omega) (by omega)) ?_;clear HF a;intro a HF
        refine zg HF (yfa 0 rfl (HF.ev rfl)) ?_;clear HF a;intro a HF
        refine zg HF (yfa 1 rfl (HF.ev rfl)) ?_;clear HF a;intro a HF
        refine wl_ung HF rfl rfl rfl ?_
        refine wl_buildS (enc := encA) (e := 173) (size := 1) rfl HF rfl rfl rfl (ps := [(0, .pointer (some ⟨b3, 0 + 0, none⟩)), (1, .pointer (some ⟨b3, 0 + 1, none⟩))]) rfl (cells := [.pointer (some ⟨b3, 0 + 0, none⟩), .pointer (some ⟨b3, 0 + 1, none⟩)]) (by kernel_rfl) [(some ⟨b3, 0 + 0, none⟩), (some ⟨b3, 0 + 1, none⟩)] rfl rfl (by unfold maxLen; omega) rfl HS.out ?_; clear HF HS a; intro b5 a w10 HF HS; replace HS := Bx.mk HS
        replace HS:=Bx.mk (((HS.out.pick 0 rfl).pick 3 rfl).pick 3 rfl)
        refine wl_callg HF rfl rfl rfl rfl (enter_of Tryz.func149 (by kernel_rfl) rfl) (args := #[.slice (some ⟨g2, 0 + 1 * 1, none⟩) (3 - 1) (cp - 1), .slice (some ⟨b5, 0, none⟩) 2 2]) rfl (nums2_any w0 _ HT.out HM.out HE.out _ _ _ _ _ _ _ _ _ _ _ _ _ _ _ _ _ _ _ _ _ HS.out) rfl rfl ?_
        rintro _ w11 (⟨n1, n2, hg1, hg2, rfl, hs1⟩ | ⟨hg1, rfl, hs1⟩ | ⟨hg2, rfl, hs1⟩)
        · skip
          refine ⟨_, rfl, ?_⟩; replace HS := Bx.mk hs1;clear hs1 HF a;intro a HF
          try dsimp only [List.eraseIdx] at HS
          refine zg HF (yl_not rfl (HF.ev rfl)) ?_;clear HF a;intro a HF
          refine zy HF (yl_pick_f rfl (HF.ev rfl) (HF.ev rfl)) ?_;clear HF a;intro a HF
          refine zm HF ?_;clear HF a;intro a HF
          refine zg HF (ylr (cs := [.int .i64 (n1 : Int), .int .i64 (n2 : Int), .string y3, .int .i64 o1.fKind, .string o1.fPath, .string o1.fTo, .int .i64 o1.fAt, .string o1.fText]) rfl (HF.ev rfl) ((HS.out.box 0 rfl).sub 0 8)) ?_;clear HF a;intro a HF
          refine wl_callBg HF rfl rfl rfl rfl (enter_of Tryz.func47 (by kernel_rfl) rfl) (args := #[.agg #[.int .i64 (n1 : Int), .int .i64 (n2 : Int), .string y3, .int .i64 o1.fKind, .string o1.fPath, .string o1.fTo, .int .i64 o1.fAt, .string o1.fText]]) rfl (v := .string (intentB (⟨(n1 : Int), (n2 : Int), y3, o1⟩ : IntentD))) (implIntentPut_any (⟨(n1 : Int), (n2 : Int), y3, o1⟩ : IntentD) _ (HT.out.below HS.out.bel) (HM.out.below HS.out.bel) ⟨by show y3.size ≤ _; omega, OpD.fits_small (op_small hpo)⟩) rfl rfl HS.out ?_; clear HF HS a; intro w12 a HS HF; replace HS := Bx.mk HS
          refine zg HF (yl_move rfl (HF.ev rfl)) ?_;clear HF a;intro a HF
          refine zg HF (yl_neqS rfl (HF.ev rfl) (HF.ev rfl)) ?_;clear HF a;intro a HF
          refine zy HF (yl_pick_f rfl (HF.ev rfl) (HF.ev rfl)) ?_;clear HF a;intro a HF
          refine wl_ne ?_
          refine HF.cases 51 rfl (fun cc2 _ => ?_) fun cc2 _ => ?_
          · clear HF;rename_i HF
            refine wc_true HF rfl ?_
            refine wp_sr ?_
            refine zy HF (yl_build HF rfl (ps := []) rfl (cs := #[.int .i64 0, .int .i64 0, .string ByteArray.empty, .int .i64 0, .string ByteArray.empty, .string ByteArray.empty, .int .i64 0, .string ByteArray.empty]) (by kernel_rfl)) ?_;clear HF a;intro a HF
            refine wl_storeBox rfl HF rfl rfl (HF.ev rfl) (HF.ev rfl) HS.out 4 rfl (cells_lit [.int .i64 0, .int .i64 0, .string ByteArray.empty, .int .i64 0, .string ByteArray.empty, .string ByteArray.empty, .int .i64 0, .string ByteArray.empty] rfl rfl) (by kernel_rfl) ?_; clear HS; intro w13 HS; replace HS := Bx.mk HS
            have HS : Bx (St w0 ([boxA b3 8 55 (.agg #[.int .i64 (n1 : Int), .int .i64 (n2 : Int), .string y3, .int .i64 o1.fKind, .string o1.fPath, .string o1.fTo, .int .i64 o1.fAt, .string o1.fText]), rowA encS 1 9 (.slice (some ⟨g2, 0, none⟩) 6 cp) ([y0, y1, y2, y3, y4, y5]), rowA encA 1 173 (.slice (some ⟨b5, 0, none⟩) 2 2) ([(some ⟨b3, 0 + 0, none⟩), (some ⟨b3, 0 + 1, none⟩)]), boxA b4 5 53 (.agg #[.int .i64 o1.fKind, .string o1.fPath, .string o1.fTo, .int .i64 o1.fAt, .string o1.fText]), boxA b1 8 55 (.agg #[.int .i64 0, .int .i64 0, .string ByteArray.empty, .int .i64 0, .string ByteArray.empty, .string ByteArray.empty, .int .i64 0, .string ByteArray.empty])]) _) := HS
            refine za HF ?_;clear HF a;intro a HF
            refine wl_ne ?_
            refine wp_ret ?_
            refine ex_then_ret ?_
            refine bp_ret2 HF Tryz.results105 (HF.resBox rfl (HS.out.box 4 rfl) (by kernel_rfl)) (HF.res rfl) ?_
            refine .inr ⟨fun x hx hxs => ?_, rfl, HS.out.bel⟩
            obtain ⟨l6, hl6, hx2⟩ := int_rec hx; rw [hxs] at hl6 hx2; have hxa := IntentD.ok_parts hx
            have hone := hrec.one hl6
            simp only [List.cons.injEq, and_true] at hone; obtain ⟨_, z1, z2, z3, z4, _⟩ := hone
            have e1 : (n1 : Int) = x.fTxg := num_one (num_back hg1) ⟨by omega, by omega, z1.symm⟩; have e2 : (n2 : Int) = x.fSeq := num_one (num_back hg2) ⟨by omega, by omega, z2.symm⟩; have e4 : o1 = x.fOp := opB_inj hpo hxa.2.2.2.2 (hpt.trans z4)
            have e3 : (⟨(n1 : Int), (n2 : Int), y3, o1⟩ : IntentD) = x := by rw [e1, e2, z3, e4]
            rw [e3, hxs] at cc2; simp at cc2
          · clear HF;rename_i HF
            refine wc_false HF rfl ?_
            refine wp_skip ?_
            refine ex_then ?_
            refine wp_sr ?_
            refine zy HF (ylr (cs := [.int .i64 (n1 : Int), .int .i64 (n2 : Int), .string y3, .int .i64 o1.fKind, .string o1.fPath, .string o1.fTo, .int .i64 o1.fAt, .string o1.fText]) rfl (HF.ev rfl) ((HS.out.box 0 rfl).sub 0 8)) ?_;clear HF a;intro a HF
            refine wl_storeBox rfl HF rfl rfl (HF.ev rfl) (HF.ev rfl) HS.out 4 rfl (cells_lit [.int .i64 (n1 : Int), .int .i64 (n2 : Int), .string y3, .int .i64 o1.fKind, .string o1.fPath, .string o1.fTo, .int .i64 o1.fAt, .string o1.fText] rfl rfl) (by kernel_rfl) ?_; clear HS; intro w14 HS; replace HS := Bx.mk HS
            have HS : Bx (St w0 ([boxA b3 8 55 (.agg #[.int .i64 (n1 : Int), .int .i64 (n2 : Int), .string y3, .int .i64 o1.fKind, .string o1.fPath, .string o1.fTo, .int .i64 o1.fAt, .string o1.fText]), rowA encS 1 9 (.slice (some ⟨g2, 0, none⟩) 6 cp) ([y0, y1, y2, y3, y4, y5]), rowA encA 1 173 (.slice (some ⟨b5, 0, none⟩) 2 2) ([(some ⟨b3, 0 + 0, none⟩), (some ⟨b3, 0 + 1, none⟩)]), boxA b4 5 53 (.agg #[.int .i64 o1.fKind, .string o1.fPath, .string o1.fTo, .int .i64 o1.fAt, .string o1.fText]), boxA b1 8 55 (.agg #[.int .i64 (n1 : Int), .int .i64 (n2 : Int), .string y3, .int .i64 o1.fKind, .string o1.fPath, .string o1.fTo, .int .i64 o1.fAt, .string o1.fText])]) _) := HS
            refine za HF ?_;clear HF a;intro a HF
            refine wl_ne ?_
            refine wp_ret ?_
            refine bp_ret2 HF Tryz.results105 (HF.resBox rfl (HS.out.box 4 rfl) (by kernel_rfl)) (HF.res rfl) ?_
            have hrt : intentB (⟨(n1 : Int), (n2 : Int), y3, o1⟩ : IntentD) = s := bytes_toList (by simpa using cc2)
            have hro : (⟨(n1 : Int), (n2 : Int), y3, o1⟩ : IntentD).ok = true := by
                cases ho : (⟨(n1 : Int), (n2 : Int), y3, o1⟩ : IntentD).ok with
                | true => rfl
                | false =>
                  rw [intentB_no ho] at hrt
                  have := hrec.is
                  rw [← hrt] at this
                  exact absurd (by rw [this]; rfl) (recB_ne y0 [y1, y2, y3, y4, y5])
            exact .inl ⟨_, hro, hrt, rfl, HS.out.bel⟩
        · skip
          refine ⟨_, rfl, ?_⟩; replace HS := Bx.mk hs1;clear hs1 HF a;intro a HF
          try dsimp only [List.eraseIdx] at HS
          refine zg HF (yl_not rfl (HF.ev rfl)) ?_;clear HF a;intro a HF
          refine zy HF (yl_pick_f rfl (HF.ev rfl) (HF.ev rfl)) ?_;clear HF a;intro a HF
          refine zm HF ?_;clear HF a;intro a HF
          refine zk HF ?_;clear HF a;intro a HF
          refine zk HF ?_;clear HF a;intro a HF
          refine zk HF ?_;clear HF a;intro a HF
          refine zk HF ?_;clear HF a;intro a HF
          refine zy HF (yl_pick_t rfl (HF.ev rfl) (HF.ev rfl)) ?_;clear HF a;intro a HF
          refine wl_ne ?_
          refine wc_true HF rfl ?_
          refine wp_sr ?_
          refine zy HF (yl_build HF rfl (ps := []) rfl (cs := #[.int .i64 0, .int .i64 0, .string ByteArray.empty, .int .i64 0, .string ByteArray.empty, .string ByteArray.empty, .int .i64 0, .string ByteArray.empty]) (by kernel_rfl)) ?_;clear HF a;intro a HF
          refine wl_storeBox rfl HF rfl rfl (HF.ev rfl) (HF.ev rfl) HS.out 1 rfl (cells_lit [.int .i64 0, .int .i64 0, .string ByteArray.empty, .int .i64 0, .string ByteArray.empty, .string ByteArray.empty, .int .i64 0, .string ByteArray.empty] rfl rfl) (by kernel_rfl) ?_; clear HS; intro w15 HS; replace HS := Bx.mk HS
          have HS : Bx (St w0 ([boxA b4 5 53 (.agg #[.int .i64 o1.fKind, .string o1.fPath, .string o1.fTo, .int .i64 o1.fAt, .string o1.fText]), boxA b1 8 55 (.agg #[.int .i64 0, .int .i64 0, .string ByteArray.empty, .int .i64 0, .string ByteArray.empty, .string ByteArray.empty, .int .i64 0, .string ByteArray.empty])]) _) := HS
          refine za HF ?_;clear HF a;intro a HF
          refine wl_ne ?_
          refine wp_ret ?_
          refine ex_then_ret ?_
          refine bp_ret2 HF Tryz.results105 (HF.resBox rfl (HS.out.box 1 rfl) (by kernel_rfl)) (HF.res rfl) ?_
          refine .inr ⟨fun x hx hxs => ?_, rfl, HS.out.bel⟩
          obtain ⟨l6, hl6, hx2⟩ := int_rec hx; rw [hxs] at hl6 hx2; have hxa := IntentD.ok_parts hx
          have hone := hrec.one hl6
          simp only [List.cons.injEq, and_true] at hone; obtain ⟨_, z1, z2, z3, z4, _⟩ := hone
          exact no_numk (n := x.fTxg) (by omega) z1 hg1
        · skip
          refine ⟨_, rfl, ?_⟩; replace HS := Bx.mk hs1;clear hs1 HF a;intro a HF
          try dsimp only [List.eraseIdx] at HS
          refine zg HF (yl_not rfl (HF.ev rfl)) ?_;clear HF a;intro a HF
          refine zy HF (yl_pick_f rfl (HF.ev rfl) (HF.ev rfl)) ?_;clear HF a;intro a HF
          refine zm HF ?_;clear HF a;intro a HF
          refine zk HF ?_;clear HF a;intro a HF
          refine zk HF ?_;clear HF a;intro a HF
          refine zk HF ?_;clear HF a;intro a HF
          refine zk HF ?_;clear HF a;intro a HF
          refine zy HF (yl_pick_t rfl (HF.ev rfl) (HF.ev rfl)) ?_;clear HF a;intro a HF
          refine wl_ne ?_
          refine wc_true HF rfl ?_
          refine wp_sr ?_
          refine zy HF (yl_build HF rfl (ps := []) rfl (cs := #[.int .i64 0, .int .i64 0, .string ByteArray.empty, .int .i64 0, .string ByteArray.empty, .string ByteArray.empty, .int .i64 0, .string ByteArray.empty]) (by kernel_rfl)) ?_;clear HF a;intro a HF
          refine wl_storeBox rfl HF rfl rfl (HF.ev rfl) (HF.ev rfl) HS.out 1 rfl (cells_lit [.int .i64 0, .int .i64 0, .string ByteArray.empty, .int .i64 0, .string ByteArray.empty, .string ByteArray.empty, .int .i64 0, .string ByteArray.empty] rfl rfl) (by kernel_rfl) ?_; clear HS; intro w16 HS; replace HS := Bx.mk HS
          have HS : Bx (St w0 ([boxA b4 5 53 (.agg #[.int .i64 o1.fKind, .string o1.fPath, .string o1.fTo, .int .i64 o1.fAt, .string o1.fText]), boxA b1 8 55 (.agg #[.int .i64 0, .int .i64 0, .string ByteArray.empty, .int .i64 0, .string ByteArray.empty, .string ByteArray.empty, .int .i64 0, .string ByteArray.empty])]) _) := HS
          refine za HF ?_;clear HF a;intro a HF
          refine wl_ne ?_
          refine wp_ret ?_
          refine ex_then_ret ?_
          refine bp_ret2 HF Tryz.results105 (HF.resBox rfl (HS.out.box 1 rfl) (by kernel_rfl)) (HF.res rfl) ?_
          refine .inr ⟨fun x hx hxs => ?_, rfl, HS.out.bel⟩
          obtain ⟨l6, hl6, hx2⟩ := int_rec hx; rw [hxs] at hl6 hx2; have hxa := IntentD.ok_parts hx
          have hone := hrec.one hl6
          simp only [List.cons.injEq, and_true] at hone; obtain ⟨_, z1, z2, z3, z4, _⟩ := hone
          exact no_numk (n := x.fSeq) (by omega) z2 hg2
      · skip
        refine ⟨_, rfl, ?_⟩; replace HS := Bx.mk (HS.out.later hb);clear hb HF a;intro a HF
        refine zm HF ?_;clear HF a;intro a HF
        refine zy HF (yl_extract rfl (HF.ev rfl) rfl) ?_;clear HF a;intro a HF
        refine zy HF (yl_extract rfl (HF.ev rfl) rfl) ?_;clear HF a;intro a HF
        refine wl_alloc rfl HF rfl rfl rfl (Z := [.int .i64 0, .string ByteArray.empty, .string ByteArray.empty, .int .i64 0, .string ByteArray.empty]) (by kernel_rfl) rfl HS.out ?_; clear HF HS a; intro a w17 b6 HF HS; replace HS := Bx.mk HS
        refine wl_storeBox rfl HF rfl rfl (HF.ev rfl) (HF.ev rfl) HS.out 0 rfl (cells_lit [.int .i64 0, .string ByteArray.empty, .string ByteArray.empty, .int .i64 0, .string ByteArray.empty] rfl rfl) (by kernel_rfl) ?_; clear HS; intro w18 HS; replace HS := Bx.mk HS
        have HS : Bx (St w0 ([boxA b6 5 53 (.agg #[.int .i64 0, .string ByteArray.empty, .string ByteArray.empty, .int .i64 0, .string ByteArray.empty]), boxA b3 8 55 (.agg #[.int .i64 0, .int .i64 0, .string y3, .int .i64 0, .string ByteArray.empty, .string ByteArray.empty, .int .i64 0, .string ByteArray.empty]), rowA encS 1 9 (.slice (some ⟨g2, 0, none⟩) 6 cp) ([y0, y1, y2, y3, y4, y5]), boxA b1 8 55 (.agg #[.int .i64 0, .int .i64 0, .string ByteArray.empty, .int .i64 0, .string ByteArray.empty, .string ByteArray.empty, .int .i64 0, .string ByteArray.empty])]) _) := HS
        refine za HF ?_;clear HF a;intro a HF
        refine wl_ne ?_
        refine wp_sr ?_
        refine zy HF (ylr (cs := [.int .i64 0, .string ByteArray.empty, .string ByteArray.empty, .int .i64 0, .string ByteArray.empty]) rfl (HF.ev rfl) ((HS.out.box 0 rfl).sub 0 5)) ?_;clear HF a;intro a HF
        refine zy HF (yfa 3 rfl (HF.ev rfl)) ?_;clear HF a;intro a HF
        refine wl_storeSub rfl rfl rfl (HF.ev rfl) (HF.ev rfl) HS.out 1 rfl (by kernel_rfl) rfl (by kernel_rfl) (rs := [.int .i64 0, .int .i64 0, .string y3, .int .i64 0, .string ByteArray.empty, .string ByteArray.empty, .int .i64 0, .string ByteArray.empty]) rfl ?_; clear HS; intro w19 HS; replace HS := Bx.mk HS
        have HS : Bx (St w0 ([boxA b6 5 53 (.agg #[.int .i64 0, .string ByteArray.empty, .string ByteArray.empty, .int .i64 0, .string ByteArray.empty]), boxA b3 8 55 (.agg #[.int .i64 0, .int .i64 0, .string y3, .int .i64 0, .string ByteArray.empty, .string ByteArray.empty, .int .i64 0, .string ByteArray.empty]), rowA encS 1 9 (.slice (some ⟨g2, 0, none⟩) 6 cp) ([y0, y1, y2, y3, y4, y5]), boxA b1 8 55 (.agg #[.int .i64 0, .int .i64 0, .string ByteArray.empty, .int .i64 0, .string ByteArray.empty, .string ByteArray.empty, .int .i64 0, .string ByteArray.empty])]) _) := HS
        refine wl_ne ?_
        refine wp_seq ?_
        refine wp_sr ?_
        refine zm HF ?_;clear HF a;intro a HF
        refine zy HF (yl_not rfl (HF.ev rfl)) ?_;clear HF a;intro a HF
        refine zm HF ?_;clear HF a;intro a HF
        refine zk HF ?_;clear HF a;intro a HF
        refine zk HF ?_;clear HF a;intro a HF
        refine zk HF ?_;clear HF a;intro a HF
        refine zk HF ?_;clear HF a;intro a HF
        refine zk HF ?_;clear HF a;intro a HF
        refine zk HF ?_;clear HF a;intro a HF
        refine zk HF ?_;clear HF a;intro a HF
        refine zy HF (yl_pick_t rfl (HF.ev rfl) (HF.ev rfl)) ?_;clear HF a;intro a HF
        refine zm HF ?_;clear HF a;intro a HF
        refine zk HF ?_;clear HF a;intro a HF
        refine zk HF ?_;clear HF a;intro a HF
        refine zk HF ?_;clear HF a;intro a HF
        refine zk HF ?_;clear HF a;intro a HF
        refine zy HF (yl_pick_t rfl (HF.ev rfl) (HF.ev rfl)) ?_;clear HF a;intro a HF
        refine wl_ne ?_
        refine wc_true HF rfl ?_
        refine wp_sr ?_
        refine zy HF (yl_build HF rfl (ps := []) rfl (cs := #[.int .i64 0, .int .i64 0, .string ByteArray.empty, .int .i64 0, .string ByteArray.empty, .string ByteArray.empty, .int .i64 0, .string ByteArray.empty]) (by kernel_rfl)) ?_;clear HF a;intro a HF
        refine wl_storeBox rfl HF rfl rfl (HF.ev rfl) (HF.ev rfl) HS.out 3 rfl (cells_lit [.int .i64 0, .int .i64 0, .string ByteArray.empty, .int .i64 0, .string ByteArray.empty, .string ByteArray.empty, .int .i64 0, .string ByteArray.empty] rfl rfl) (by kernel_rfl) ?_; clear HS; intro w20 HS; replace HS := Bx.mk HS
        have HS : Bx (St w0 ([boxA b6 5 53 (.agg #[.int .i64 0, .string ByteArray.empty, .string ByteArray.empty, .int .i64 0, .string ByteArray.empty]), boxA b3 8 55 (.agg #[.int .i64 0, .int .i64 0, .string y3, .int .i64 0, .string ByteArray.empty, .string ByteArray.empty, .int .i64 0, .string ByteArray.empty]), rowA encS 1 9 (.slice (some ⟨g2, 0, none⟩) 6 cp) ([y0, y1, y2, y3, y4, y5]), boxA b1 8 55 (.agg #[.int .i64 0, .int .i64 0, .string ByteArray.empty, .int .i64 0, .string ByteArray.empty, .string ByteArray.empty, .int .i64 0, .string ByteArray.empty])]) _) := HS
        refine za HF ?_;clear HF a;intro a HF
        refine wl_ne ?_
        refine wp_ret ?_
        refine ex_then_ret ?_
        refine bp_ret2 HF Tryz.results105 (HF.resBox rfl (HS.out.box 3 rfl) (by kernel_rfl)) (HF.res rfl) ?_
        refine .inr ⟨fun x hx hxs => ?_, rfl, HS.out.bel⟩
        obtain ⟨l6, hl6, hx2⟩ := int_rec hx; rw [hxs] at hl6 hx2; have hxa := IntentD.ok_parts hx
        have hone := hrec.one hl6
        simp only [List.cons.injEq, and_true] at hone; obtain ⟨_, z1, z2, z3, z4, _⟩ := hone
        exact hpn x.fOp hxa.2.2.2.2 z4.symm
  · skip
    refine ⟨_, rfl, ?_⟩; replace HS := Bx.mk (HS.out.later hb);clear hb HF a;intro a HF
    refine zm HF ?_;clear HF a;intro a HF
    refine zy HF (yl_extract rfl (HF.ev rfl) rfl) ?_;clear HF a;intro a HF
    refine zy HF (yl_extract rfl (HF.ev rfl) rfl) ?_;clear HF a;intro a HF
    refine za HF ?_;clear HF a;intro a HF
    refine za HF ?_;clear HF a;intro a HF
    refine wl_ne ?_
    refine wp_seq ?_
    refine wp_sr ?_
    refine zm HF ?_;clear HF a;intro a HF
    refine zy HF (yl_not rfl (HF.ev rfl)) ?_;clear HF a;intro a HF
    refine zm HF ?_;clear HF a;intro a HF
    refine zk HF ?_;clear HF a;intro a HF
    refine zk HF ?_;clear HF a;intro a HF
    refine zk HF ?_;clear HF a;intro a HF
    refine zy HF (yl_pick_t rfl (HF.ev rfl) (HF.ev rfl)) ?_;clear HF a;intro a HF
    refine wl_ne ?_
    refine wc_true HF rfl ?_
    refine wp_sr ?_
    refine zy HF (yl_build HF rfl (ps := []) rfl (cs := #[.int .i64 0, .int .i64 0, .string ByteArray.empty, .int .i64 0, .string ByteArray.empty, .string ByteArray.empty, .int .i64 0, .string ByteArray.empty]) (by kernel_rfl)) ?_;clear HF a;intro a HF
    refine wl_storeBox rfl HF rfl rfl (HF.ev rfl) (HF.ev rfl) HS.out 0 rfl (cells_lit [.int .i64 0, .int .i64 0, .string ByteArray.empty, .int .i64 0, .string ByteArray.empty, .string ByteArray.empty, .int .i64 0, .string ByteArray.empty] rfl rfl) (by kernel_rfl) ?_; clear HS; intro w21 HS; replace HS := Bx.mk HS
    have HS : Bx (St w0 ([boxA b1 8 55 (.agg #[.int .i64 0, .int .i64 0, .string ByteArray.empty, .int .i64 0, .string ByteArray.empty, .string ByteArray.empty, .int .i64 0, .string ByteArray.empty])]) _) := HS
    refine za HF ?_;clear HF a;intro a HF
    refine wl_ne ?_
    refine wp_ret ?_
    refine ex_then_ret ?_
    refine bp_ret2 HF Tryz.results105 (HF.resBox rfl (HS.out.box 0 rfl) (by kernel_rfl)) (HF.res rfl) ?_
    refine .inr ⟨fun x hx hxs => ?_, rfl, HS.out.bel⟩
    obtain ⟨l6, hl6, hx2⟩ := int_rec hx; rw [hxs] at hl6 hx2; have hxa := IntentD.ok_parts hx
    exact hno _ hl6 (by omega)

theorem intentGet_f (s : ByteArray) (w0 : World) (hT : TabP w0) (hM : MaxP w0) (hE : ErrP w0) (hs : s.size ≤ 9223372036854775807) : Calls Tryz.prog 105 #[.string s] w0 fun e w' => e = .returned (.tuple #[.agg #[.int .i64 ((gotI s).fTxg), .int .i64 ((gotI s).fSeq), .string ((gotI s).fHead), .int .i64 ((gotI s).fOp.fKind), .string ((gotI s).fOp.fPath), .string ((gotI s).fOp.fTo), .int .i64 ((gotI s).fOp.fAt), .string ((gotI s).fOp.fText)], .bool (gotX s)]) ∧ Below w0.heap.size w0 w' := by
  refine (intentGet_any s w0 hT hM hE hs).mono ?_
  rintro e w' (⟨x, hx, h, rfl, hb⟩ | ⟨h, rfl, hb⟩)
  · refine ⟨?_, hb⟩
    unfold gotI gotX; rw [intOf_yes hx h]; rfl
  · refine ⟨?_, hb⟩
    unfold gotI gotX; rw [intOf_no h]; rfl

end Go.Proofs.YtoaopmkbfifhaaaGreatDoor
