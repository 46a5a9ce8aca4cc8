/- A part of the proof in YtgaodbdadncfhaaGreatDoorTbZ29. -/
import Derived.Shelf.Strconv.Clone
import Derived.Shelf.Strings.Cut
import Derived.Test.YtgaodbdadncfhaaGreatDoorTbZ20
/- Cut and Clone: laid at this dump. -/
namespace Go.Proofs.YtgaodbdadncfhaaGreatDoor
set_option linter.unusedVariables false
set_option linter.unusedSimpArgs false
set_option maxHeartbeats 1000000
set_option maxRecDepth 100000
open Go.Shelf

def layCut_ren : Go.Shelf.Ren := ⟨fun | 145 => 147 | 217 => 193 | 219 => 180 | 220 => 167 | 224 => 195 | 225 => 194 | 266 => 202 | 267 => 196 | 314 => 203 | n => n, fun | 3 => 3 | 4 => 4 | 5 => 5 | 9 => 9 | 46 => 156 | 51 => 182 | 59 => 178 | 146 => 183 | n => n, fun | 1 => 0 | n => n⟩
theorem layCut : Go.Proofs.Lays.n145 Tryz.prog layCut_ren := {
  mixed := by kernel_rfl
  f145 := Tryz.func147.trans (congrArg some (by kernel_rfl))
  f217 := Tryz.func193.trans (congrArg some (by kernel_rfl))
  f219 := Tryz.func180.trans (congrArg some (by kernel_rfl))
  f220 := Tryz.func167.trans (congrArg some (by kernel_rfl))
  f224 := Tryz.func195.trans (congrArg some (by kernel_rfl))
  f225 := Tryz.func194.trans (congrArg some (by kernel_rfl))
  f266 := Tryz.func202.trans (congrArg some (by kernel_rfl))
  f267 := Tryz.func196.trans (congrArg some (by kernel_rfl))
  f314 := Tryz.func203.trans (congrArg some (by kernel_rfl))
  t3 := Tryz.underlying3
  a3 := Tryz.isAgg3
  z3 := Tryz.sizeOf3
  v3 := Tryz.zeroValue3
  t4 := Tryz.underlying4
  a4 := Tryz.isAgg4
  z4 := Tryz.sizeOf4
  v4 := Tryz.zeroValue4
  t5 := Tryz.underlying5
  a5 := Tryz.isAgg5
  z5 := Tryz.sizeOf5
  v5 := Tryz.zeroValue5
  t9 := Tryz.underlying9
  a9 := Tryz.isAgg9
  z9 := Tryz.sizeOf9
  v9 := Tryz.zeroValue9
  t46 := Tryz.underlying156
  a46 := Tryz.isAgg156
  z46 := Tryz.sizeOf156
  v46 := Tryz.zeroValue156
  t51 := Tryz.underlying182
  a51 := Tryz.isAgg182
  z51 := Tryz.sizeOf182
  v51 := Tryz.zeroValue182
  t59 := Tryz.underlying178
  a59 := Tryz.isAgg178
  z59 := Tryz.sizeOf178
  v59 := Tryz.zeroValue178
  t146 := Tryz.underlying183
  a146 := Tryz.isAgg183
  z146 := Tryz.sizeOf183
  v146 := Tryz.zeroValue183
  g1 := by kernel_rfl }
def layClone_ren : Go.Shelf.Ren := ⟨fun | 316 => 168 | n => n, fun | 0 => 0 | 3 => 3 | 4 => 4 | 5 => 5 | 9 => 9 | 37 => 94 | 127 => 128 | n => n, fun | n => n⟩
theorem layClone : Go.Proofs.LaysM.n316 Tryz.prog layClone_ren := {
  mixed := by kernel_rfl
  f316 := Tryz.func168.trans (congrArg some (by kernel_rfl))
  t0 := Tryz.underlying0
  a0 := Tryz.isAgg0
  z0 := Tryz.sizeOf0
  v0 := Tryz.zeroValue0
  t3 := Tryz.underlying3
  a3 := Tryz.isAgg3
  z3 := Tryz.sizeOf3
  v3 := Tryz.zeroValue3
  t4 := Tryz.underlying4
  a4 := Tryz.isAgg4
  z4 := Tryz.sizeOf4
  v4 := Tryz.zeroValue4
  t9 := Tryz.underlying9
  a9 := Tryz.isAgg9
  z9 := Tryz.sizeOf9
  v9 := Tryz.zeroValue9
  t37 := Tryz.underlying94
  a37 := Tryz.isAgg94
  z37 := Tryz.sizeOf94
  v37 := Tryz.zeroValue94
  t127 := Tryz.underlying128
  a127 := Tryz.isAgg128
  z127 := Tryz.sizeOf128
  v127 := Tryz.zeroValue128
  t5 := Tryz.underlying5
  a5 := Tryz.isAgg5
  z5 := Tryz.sizeOf5
  v5 := Tryz.zeroValue5
  i0 := by kernel_rfl
  i3 := by kernel_rfl
  i4 := by kernel_rfl
  i5 := by kernel_rfl
  i9 := by kernel_rfl
  i37 := by kernel_rfl
  i127 := by kernel_rfl }
end Go.Proofs.YtgaodbdadncfhaaGreatDoor

/- Records read: walked. -/
namespace Go.Proofs.YtgaodbdadncfhaaGreatDoor
set_option linter.unusedVariables false
set_option linter.unusedSimpArgs false
set_option maxHeartbeats 1000000
set_option maxRecDepth 100000
open Go.RowKit

/-- A text cut at its first ':'. -/
theorem cut_any (s : ByteArray) (w : World) (hM : MaxP w) (hs : s.size ≤ 4294967280) : Calls Tryz.prog 147 #[.string s, .string ⟨#[58]⟩] w fun e w' => ((58 : UInt8) ∉ s.data.toList ∧ (∃ b a : ByteArray, e = .returned (.tuple #[.string b, .string a, .bool false])) ∧ Below w.heap.size w w') ∨ (∃ num tail : ByteArray, s.data.toList = num.data.toList ++ 58 :: tail.data.toList ∧ (58 : UInt8) ∉ num.data.toList ∧ e = .returned (.tuple #[.string num, .string tail, .bool true]) ∧ Below w.heap.size w w') := by
  obtain ⟨m, hm⟩ := hM
  refine (Any.strings_Cut layCut s ⟨#[58]⟩ m w (by omega) hm).mono ?_
  rintro e w' ⟨rfl, n, rfl⟩
  rcases cut_split 58 s.data.toList with ⟨h1, h2⟩ | ⟨d, t, h1, h2, h3⟩
  · refine .inl ⟨h1, ⟨⟨(Go.Lib.cut s.data.toList [58]).1.toArray⟩, ⟨(Go.Lib.cut s.data.toList [58]).2.1.toArray⟩, ?_⟩, below_drewN _ _ _⟩
    show Ending.returned (.tuple #[_, _, .bool (Go.Lib.cut s.data.toList [58]).2.2]) = _
    rw [h2]
  · refine .inr ⟨⟨d.toArray⟩, ⟨t.toArray⟩, h1, h2, ?_, below_drewN _ _ _⟩
    show Ending.returned (.tuple #[.string ⟨(Go.Lib.cut s.data.toList [58]).1.toArray⟩, .string ⟨(Go.Lib.cut s.data.toList [58]).2.1.toArray⟩, .bool (Go.Lib.cut s.data.toList [58]).2.2]) = _
    rw [h3]

theorem clone_text (s : ByteArray) (w0 : World) (hs : s.size ≤ 281474976710656) : Calls Tryz.prog 148 #[.string s] w0 fun e w' => e = .returned (.string s) ∧ Below w0.heap.size w0 w' := by
 have HS := Bx.mk (St.start w0)
 refine wc_enter Tryz.func148 rfl Tryz.ntmps148 [(0, .string s)] ⟨rfl, trivial⟩ rfl ?_; intro a HF
 refine wp_sr ?_
 refine za HF ?_;clear HF a;intro a HF
 refine wl_ne ?_
 refine wp_sr ?_
 refine zm HF ?_;clear HF a;intro a HF
 refine wl_callB rfl HF rfl (enter_of Tryz.func168 (by kernel_rfl) rfl) (args := #[.string s]) rfl (v := .string s) (Any.stringslite_Clone layClone s _ (by omega)) rfl rfl HS.out ?_; clear HF HS a; intro w1 a HS HF; replace HS := Bx.mk HS
 refine za HF ?_;clear HF a;intro a HF
 refine wl_ne ?_
 refine wp_ret ?_
 refine bp_ret1 HF Tryz.results148 (HF.res rfl) ?_
 exact ⟨rfl, HS.out.bel⟩

theorem fieldsGet_any (s : ByteArray) (w0 : World) (hT : TabP w0) (hM : MaxP w0) (hE : ErrP w0) (hs : s.size ≤ 9223372036854775807) : Calls Tryz.prog 142 #[.string s] w0 fun e w' => (∃ xs, IsRec s xs ∧ s.size ≤ 2048 ∧ ∃ ao cp, e = .returned (.tuple #[.slice ao xs.length cp, .bool true]) ∧ St w0 [rowA encS 1 9 (.slice ao xs.length cp) xs] w') ∨ ((∀ l, IsRec s l → s.size ≤ 2048 → False) ∧ e = .returned (.tuple #[.slice none 0 0, .bool false]) ∧ Below w0.heap.size w0 w') := by
 have HT := Bx.mk hT; have HM := Bx.mk hM; have HE := Bx.mk hE; clear hT hM hE
 have HS := Bx.mk (St.start w0)
 refine wc_enter Tryz.func142 rfl Tryz.ntmps142 [(0, .string s)] ⟨rfl, trivial⟩ rfl ?_; intro a HF
 refine wp_sr ?_
 refine zr 2 HF rfl ?_;clear HF a;intro a HF
 refine wl_ne ?_
 refine wp_seq ?_
 refine wp_sr ?_
 refine zm HF ?_;clear HF a;intro a HF
 refine zy HF (yl_lenS rfl (HF.ev rfl) (by kernel_rfl)) ?_;clear HF a;intro a HF
 refine zy HF (yl_gtrI rfl (HF.ev rfl) (HF.ev rfl)) ?_;clear HF a;intro a HF
 refine wl_ne ?_
 refine HF.cases 13 rfl (fun cc1 _ => ?_) fun cc1 _ => ?_
 ·clear HF;rename_i HF
  have dcc1 := of_decide_eq_true cc1
  refine wc_true HF rfl ?_
  refine wp_sr ?_
  refine zr 2 HF rfl ?_;clear HF a;intro a HF
  refine wl_ne ?_
  refine wp_ret ?_
  refine ex_then_ret ?_
  refine bp_ret2 HF Tryz.results142 (HF.res rfl) (HF.res rfl) ?_
  exact .inr ⟨fun l h h2 => absurd h2 (by omega), rfl, HS.out.bel⟩
 ·clear HF;rename_i HF
  have dcc1 := of_decide_eq_false cc1
  refine wc_false HF rfl ?_
  refine wp_skip ?_
  refine ex_then ?_
  refine wp_seq ?_
  have hsz : s.size ≤ 2048 := by omega
  refine wp_region_lit ?_
  refine za HF ?_;clear HF a;intro a HF
  refine wl_ne ?_
  refine wp_seq ?_
  refine wp_sr ?_
  refine zr 2 HF rfl ?_;clear HF a;intro a HF
  refine wl_ne ?_
  refine wp_block ?_
  replace HS := Bx.mk (HS.out.nilRow encS 1 9 none)
  refine wc_loop (ι := Nat) (fun k a w => ∃ (ao : Option Addr) (cp : Nat) (xs : List ByteArray) (rest : ByteArray), (k = rest.size ∧ RdTo s xs rest ∧ xs.length ≤ 60) ∧ Fr 56 a [(0, .string s), (4, .slice ao xs.length cp), (5, .string rest)] ∧ St w0 ([rowA encS 1 9 (.slice ao xs.length cp) xs]) w) (fun k => k) s.size ⟨_, _, [], s, ⟨rfl, RdTo.zero s, Nat.zero_le _⟩, HF.less _ ⟨rfl, rfl, rfl, trivial⟩, HS.out⟩ ?_
  clear HF HS; clear a
  rintro k a w1 ⟨ao, cp, xs, rest, ⟨hkr, hto, hxl⟩, HF, HS⟩
  replace HS := Bx.mk HS
  have hrs := hto.size
  refine wp_seq ?_
  refine wp_sr ?_
  refine zm HF ?_;clear HF a;intro a HF
  refine zy HF (yl_neqS rfl (HF.ev rfl) (HF.ev rfl)) ?_;clear HF a;intro a HF
  refine wl_ne ?_
  refine HF.cases 16 rfl (fun cc2 _ => ?_) fun cc2 _ => ?_
  ·clear HF;rename_i HF
   have hre : (rest.toList == (⟨#[]⟩ : ByteArray).toList) = false := by simpa using cc2
   refine wc_true HF rfl ?_
   refine wp_skip ?_
   refine ex_then ?_
   refine wp_block ?_
   refine wp_sr ?_
   refine zm HF ?_;clear HF a;intro a HF
   refine wl_call rfl HF rfl (enter_of Tryz.func147 (by kernel_rfl) rfl) (args := #[.string rest, .string (⟨#[58]⟩ : ByteArray)]) rfl (cut_any rest _ (HM.out.below HS.out.bel) (by omega)) rfl rfl ?_
   rintro _ w2 (⟨h58, ⟨cb, ca, rfl⟩, hb⟩ | ⟨num, tail, hcut, h58, rfl, hb⟩)
   ·skip
    refine ⟨_, rfl, ?_⟩; replace HS := Bx.mk (HS.out.later hb);clear hb HF a;intro a HF
    refine zr 7 HF rfl ?_;clear HF a;intro a HF
    refine wl_ne ?_
    refine wp_sr ?_
    refine zm HF ?_;clear HF a;intro a HF
    refine wl_call rfl HF rfl (enter_of Tryz.func143 (by kernel_rfl) rfl) (args := #[.string cb]) rfl (implNumGet_any cb _ (HT.out.below HS.out.bel) (HE.out.below HS.out.bel)) rfl rfl ?_
    rintro _ w3 (⟨n, hng, rfl, hb⟩ | ⟨hng, rfl, hb⟩)
    ·skip
     refine ⟨_, rfl, ?_⟩; replace HS := Bx.mk (HS.out.later hb);clear hb HF a;intro a HF
     refine zr 5 HF rfl ?_;clear HF a;intro a HF
     refine wl_ne ?_
     refine wp_seq ?_
     refine wp_sr ?_
     refine zr 17 HF rfl ?_;clear HF a;intro a HF
     refine wl_ne ?_
     refine wc_true HF rfl ?_
     refine wp_sr ?_
     refine zr 2 HF rfl ?_;clear HF a;intro a HF
     refine wl_ne ?_
     refine wp_ret ?_
     refine ex_then_ret ?_
     refine ex_block_ret ?_
     refine ex_then_ret ?_
     refine ex_block_ret ?_
     refine ex_then_ret ?_
     refine bp_ret2 HF Tryz.results142 (HF.res rfl) (HF.res rfl) ?_
     refine .inr ⟨fun l h h2 => ?_, rfl, HS.out.bel⟩
     obtain ⟨y, ws, e1, e2, e3, e4⟩ := hto.go h.is h2 h.many hre
     exact h58 (by rw [e2]; simp)
    ·skip
     refine ⟨_, rfl, ?_⟩; replace HS := Bx.mk (HS.out.later hb);clear hb HF a;intro a HF
     refine zr 5 HF rfl ?_;clear HF a;intro a HF
     refine wl_ne ?_
     refine wp_seq ?_
     refine wp_sr ?_
     refine zr 17 HF rfl ?_;clear HF a;intro a HF
     refine wl_ne ?_
     refine wc_true HF rfl ?_
     refine wp_sr ?_
     refine zr 2 HF rfl ?_;clear HF a;intro a HF
     refine wl_ne ?_
     refine wp_ret ?_
     refine ex_then_ret ?_
     refine ex_block_ret ?_
     refine ex_then_ret ?_
     refine ex_block_ret ?_
     refine ex_then_ret ?_
     refine bp_ret2 HF Tryz.results142 (HF.res rfl) (HF.res rfl) ?_
     refine .inr ⟨fun l h h2 => ?_, rfl, HS.out.bel⟩
     obtain ⟨y, ws, e1, e2, e3, e4⟩ := hto.go h.is h2 h.many hre
     exact h58 (by rw [e2]; simp)
   ·skip
    refine ⟨_, rfl, ?_⟩; replace HS := Bx.mk (HS.out.later hb);clear hb HF a;intro a HF
    have htl : tail.size ≤ 2048 := by have h1 := congrArg List.length hcut; rw [List.length_append, List.length_cons] at h1; have h2 := size_list rest; have h3 := size_list tail; have h4 := hto.size; omega
    refine zr 7 HF rfl ?_;clear HF a;intro a HF
    refine wl_ne ?_
    refine wp_sr ?_
    refine zm HF ?_;clear HF a;intro a HF
    refine wl_call rfl HF rfl (enter_of Tryz.func143 (by kernel_rfl) rfl) (args := #[.string num]) rfl (implNumGet_any num _ (HT.out.below HS.out.bel) (HE.out.below HS.out.bel)) rfl rfl ?_
    rintro _ w4 (⟨n, hng, rfl, hb⟩ | ⟨hng, rfl, hb⟩)
    ·skip
     refine ⟨_, rfl, ?_⟩; replace HS := Bx.mk (HS.out.later hb);clear hb HF a;intro a HF
     refine zr 5 HF rfl ?_;clear HF a;intro a HF
     refine wl_ne ?_
     refine wp_seq ?_
     refine wp_sr ?_
     refine zr 9 HF rfl ?_;clear HF a;intro a HF
     refine zg HF (yl_lenS rfl (HF.ev rfl) (by kernel_rfl)) ?_;clear HF a;intro a HF
     refine zr 3 HF rfl ?_;clear HF a;intro a HF
     refine HF.cases 40 rfl (fun cc3 _ => ?_) fun cc3 _ => ?_
     ·clear HF;rename_i HF
      have dcc3 := of_decide_eq_true cc3
      refine zr 4 HF rfl ?_;clear HF a;intro a HF
      refine wl_ne ?_
      refine wc_true HF rfl ?_
      refine wp_sr ?_
      refine zr 2 HF rfl ?_;clear HF a;intro a HF
      refine wl_ne ?_
      refine wp_ret ?_
      refine ex_then_ret ?_
      refine ex_block_ret ?_
      refine ex_then_ret ?_
      refine ex_block_ret ?_
      refine ex_then_ret ?_
      refine bp_ret2 HF Tryz.results142 (HF.res rfl) (HF.res rfl) ?_
      refine .inr ⟨fun l h h2 => ?_, rfl, HS.out.bel⟩
      obtain ⟨y, ws, e1, e2, e3, e4⟩ := hto.go h.is h2 h.many hre
      have e5 := app_58 (dec_no58 y.size) h58 (e2.symm.trans hcut)
      rw [ba_ext e5.1] at e3; have e6 := Option.some.inj (e3.symm.trans hng); have e7 := congrArg List.length e5.2; rw [List.length_append] at e7; have e8 := size_list y; have e9 := size_list tail; omega
     ·clear HF;rename_i HF
      have dcc3 := of_decide_eq_false cc3
      refine zg HF (yl_move rfl (HF.ev rfl)) ?_;clear HF a;intro a HF
      refine zg HF (yl_lenL (e := 9) (size := 1) rfl (HF.ev rfl) (by kernel_rfl)) ?_;clear HF a;intro a HF
      refine zr 2 HF rfl ?_;clear HF a;intro a HF
      refine wl_ne ?_
      refine HF.cases 44 rfl (fun cc4 _ => ?_) fun cc4 _ => ?_
      ·clear HF;rename_i HF
       have dcc4 := eq_of_beq cc4
       refine wc_true HF rfl ?_
       refine wp_sr ?_
       refine zr 2 HF rfl ?_;clear HF a;intro a HF
       refine wl_ne ?_
       refine wp_ret ?_
       refine ex_then_ret ?_
       refine ex_block_ret ?_
       refine ex_then_ret ?_
       refine ex_block_ret ?_
       refine ex_then_ret ?_
       refine bp_ret2 HF Tryz.results142 (HF.res rfl) (HF.res rfl) ?_
       refine .inr ⟨fun l h h2 => ?_, rfl, HS.out.bel⟩
       obtain ⟨y, ws, e1, e2, e3, e4⟩ := hto.go h.is h2 h.many hre
       have e5 := app_58 (dec_no58 y.size) h58 (e2.symm.trans hcut)
       rw [ba_ext e5.1] at e3; have e6 := Option.some.inj (e3.symm.trans hng); have e7 := congrArg List.length e5.2; rw [List.length_append] at e7; have e8 := size_list y; have e9 := size_list tail; omega
      ·clear HF;rename_i HF
       have dcc4 := ne_of_beq_false cc4
       refine wc_false HF rfl ?_
       refine wp_skip ?_
       refine ex_then ?_
       refine wp_sr ?_
       refine zr 3 HF rfl ?_;clear HF a;intro a HF
       refine zy HF (yl_sliceSh (k := n) rfl (HF.ev rfl) (HF.ev rfl) (by kernel_rfl) (by omega) (by omega)) ?_;clear HF a;intro a HF
       refine wl_callB rfl HF rfl (enter_of Tryz.func148 (by kernel_rfl) rfl) (args := #[.string (tail.extract 0 n)]) rfl (v := .string (tail.extract 0 n)) (clone_text (tail.extract 0 n) _ (by rw [ByteArray.size_extract]; omega)) rfl rfl HS.out ?_; clear HF HS a; intro w5 a HS HF; replace HS := Bx.mk HS
       refine wl_buildS (enc := encS) (e := 9) (size := 1) rfl HF rfl rfl rfl (ps := [(0, .string (tail.extract 0 n))]) rfl (cells := [.string (tail.extract 0 n)]) (by kernel_rfl) [tail.extract 0 n] rfl rfl (by unfold maxLen; omega) rfl HS.out ?_; clear HF HS a; intro b1 a w6 HF HS; replace HS := Bx.mk HS
       refine wl_appL rfl HF rfl rfl rfl (HF.ev rfl) (HF.ev rfl) elemS encS_len HS.out 1 (xs := xs) rfl (ys := [tail.extract 0 n]) (St.rdN HS.out encS_len 0 rfl) (cells_one_S _) (by unfold maxLen; (try simp only [List.length_append, List.length_cons, List.length_nil, List.nil_append, List.length_map]); omega) (by (try simp only [List.length_append, List.length_cons, List.length_nil, List.nil_append, List.length_map]); omega) ?_; clear HF HS a; intro ao2 cp3 w7 a HF HS; replace HS := Bx.mk HS
       try dsimp only [List.eraseIdx] at HS
       refine za HF ?_;clear HF a;intro a HF
       refine wl_ne ?_
       refine wp_region_lit ?_
       refine zr 2 HF rfl ?_;clear HF a;intro a HF
       refine zy HF (yl_sliceSl (k := n) rfl (HF.ev rfl) (HF.ev rfl) (by kernel_rfl) (by omega) (by omega)) ?_;clear HF a;intro a HF
       refine za HF ?_;clear HF a;intro a HF
       refine wpList_nil ?_
       refine ex_block ?_
       refine ex_then ?_
       have hz : xs.length + ([tail.extract 0 n]).length = (xs ++ ([tail.extract 0 n])).length := (List.length_append ..).symm
       rw [hz] at HS HF
       have hto2 := hto.step hcut hng (by omega)
       have hlt : (tail.extract n tail.size).size < rest.size := by have h1 := congrArg List.length hcut; rw [List.length_append, List.length_cons] at h1; have h2 := size_list rest; have h3 := size_list tail; rw [ByteArray.size_extract]; omega
       replace HS:=Bx.mk (HS.out.pick 1 rfl)
       exact ⟨(tail.extract n tail.size).size, ⟨_, _, xs ++ ([tail.extract 0 n]), tail.extract n tail.size, ⟨rfl, hto2, by rw [List.length_append, List.length_cons, List.length_nil]; omega⟩, HF.less _ ⟨rfl, rfl, rfl, trivial⟩, (HS.out.erase 1)⟩, (by rw [hkr]; exact hlt)⟩
    ·skip
     refine ⟨_, rfl, ?_⟩; replace HS := Bx.mk (HS.out.later hb);clear hb HF a;intro a HF
     refine zr 5 HF rfl ?_;clear HF a;intro a HF
     refine wl_ne ?_
     refine wp_seq ?_
     refine wp_sr ?_
     refine zr 17 HF rfl ?_;clear HF a;intro a HF
     refine wl_ne ?_
     refine wc_true HF rfl ?_
     refine wp_sr ?_
     refine zr 2 HF rfl ?_;clear HF a;intro a HF
     refine wl_ne ?_
     refine wp_ret ?_
     refine ex_then_ret ?_
     refine ex_block_ret ?_
     refine ex_then_ret ?_
     refine ex_block_ret ?_
     refine ex_then_ret ?_
     refine bp_ret2 HF Tryz.results142 (HF.res rfl) (HF.res rfl) ?_
     refine .inr ⟨fun l h h2 => ?_, rfl, HS.out.bel⟩
     obtain ⟨y, ws, e1, e2, e3, e4⟩ := hto.go h.is h2 h.many hre
     have e5 := app_58 (dec_no58 y.size) h58 (e2.symm.trans hcut)
     rw [ba_ext e5.1] at e3; rw [e3] at hng; cases hng
  ·clear HF;rename_i HF
   have hre : (rest.toList == (⟨#[]⟩ : ByteArray).toList) = true := by simpa using cc2
   refine wc_false HF rfl ?_
   refine wp_exit ?_
   refine ex_then_exit ?_
   refine ex_then_exit ?_
   refine ex_block_hit ?_
   refine ex_then ?_
   refine wp_sr ?_
   refine zr 3 HF rfl ?_;clear HF a;intro a HF
   refine wl_ne ?_
   refine wp_ret ?_
   refine bp_ret2 HF Tryz.results142 (HF.res rfl) (HF.res rfl) ?_
   replace HS:=Bx.mk (HS.out.pick 0 rfl)
   exact .inl ⟨xs, ⟨hto.done hre, hxl⟩, hsz, _, _, rfl, HS.out⟩

end Go.Proofs.YtgaodbdadncfhaaGreatDoor

/- Pointers, trees, roots read: walked. -/
namespace Go.Proofs.YtgaodbdadncfhaaGreatDoor
set_option linter.unusedVariables false
set_option linter.unusedSimpArgs false
set_option maxHeartbeats 1000000
set_option maxRecDepth 100000
open Go.RowKit

theorem dec_no46 (n : Nat) : ∀ x ∈ (decB n).data.toList, x ≠ 46 := by
  intro x hx e
  subst e
  rw [decB_list] at hx
  obtain ⟨d, hd⟩ := digits_all n 46 hx
  obtain ⟨h1, h10⟩ := digit_back hd
  have hn : (UInt8.ofNat (48 + d)).toNat = 48 + d := by rw [UInt8.toNat_ofNat']; omega
  rw [← h1] at hn
  have : (46 : UInt8).toNat = 46 := rfl
  omega
theorem num_no46 {n : Int} (h : 0 ≤ n ∧ n ≤ 999999999) : ∀ x ∈ (numB n).data.toList, x ≠ 46 := by rw [numB_in h.1 h.2]; exact dec_no46 _
theorem pieces46 {a : ByteArray} (h : ∀ x ∈ a.data.toList, x ≠ 46) (b : ByteArray) : piecesB (a ++ (dotB ++ b)) 46 = a :: piecesB b 46 := by
  unfold piecesB
  rw [list_append, list_append, show dotB.data.toList = [46] from rfl, List.singleton_append, splitL_app 46 _ _ h, List.map_cons]
theorem pieces46_one {a : ByteArray} (h : ∀ x ∈ a.data.toList, x ≠ 46) : piecesB a 46 = [a] := by
  unfold piecesB
  rw [splitL_none 46 _ h, List.map_cons, List.map_nil]
theorem app_assoc (a b c : ByteArray) : a ++ b ++ c = a ++ (b ++ c) := ba_ext (by simp only [list_append, List.append_assoc])
theorem ptr_pieces {p : PtrD} (h : p.ok = true) (hh : p.hole = false) : piecesB (ptrB p) 46 = [numB p.fAt, numB p.fBirth, numB p.fSize, numB p.fSum, numB p.fLevel] := by
  have hb := PtrD.ok_all h hh
  rw [ptrB_yes h hh]
  simp only [app_assoc]
  rw [pieces46 (num_no46 (by omega)), pieces46 (num_no46 (by omega)), pieces46 (num_no46 (by omega)), pieces46 (num_no46 (by omega)), pieces46_one (num_no46 (by omega))]
theorem numG_num {n : Int} (h : 0 ≤ n ∧ n ≤ 999999999) : numG (numB n) = some n.toNat := by rw [numB_in h.1 h.2]; exact numG_dec (by omega)
theorem num_read {n : Int} {m : Nat} (h : 0 ≤ n ∧ n ≤ 999999999) (hg : numG (numB n) = some m) : (m : Int) = n := by
  rw [numG_num h] at hg
  have := Option.some.inj hg
  omega
theorem hole_zero {p : PtrD} (h : p.hole = true) : p = PtrD.zero := by
  unfold PtrD.hole at h
  simp only [Bool.and_eq_true, beq_iff_eq] at h
  obtain ⟨⟨⟨⟨h1, h2⟩, h3⟩, h4⟩, h5⟩ := h
  cases p
  simp only at h1 h2 h3 h4 h5
  subst h1; subst h2; subst h3; subst h4; subst h5
  rfl
theorem ptr_dash {p : PtrD} {s : ByteArray} (h : p.ok = true) (hs : ptrB p = s) (hd : (s.toList == (⟨#[45]⟩ : ByteArray).toList) = false) : p.hole = false := by
  cases hh : p.hole with
  | false => rfl
  | true =>
    rw [ptrB_hole h hh] at hs
    rw [← hs, show ((⟨#[45]⟩ : ByteArray).toList == (⟨#[45]⟩ : ByteArray).toList) = true from beq_self_eq_true _] at hd
    cases hd
theorem len5 {α : Type} {l : List α} (h : l.length = 5) : ∃ a b c d e, l = [a, b, c, d, e] := by
  match l, h with
  | [a, b, c, d, e], _ => exact ⟨a, b, c, d, e, rfl⟩
/-- Two valid pointers have one text only if they are one. -/
theorem ptrB_inj {p q : PtrD} (hp : p.ok = true) (hq : q.ok = true) (h : ptrB p = ptrB q) : p = q := by
  cases h1 : p.hole with
  | true =>
    cases h2 : q.hole with
    | true => rw [hole_zero h1, hole_zero h2]
    | false =>
      have := ptr_pieces hq h2
      rw [← h, ptrB_hole hp h1] at this
      exact absurd (congrArg List.length this) (show ¬ (1 : Nat) = 5 by decide)
  | false =>
    cases h2 : q.hole with
    | true =>
      have := ptr_pieces hp h1
      rw [h, ptrB_hole hq h2] at this
      exact absurd (congrArg List.length this) (show ¬ (1 : Nat) = 5 by decide)
    | false =>
      have e1 := ptr_pieces hp h1
      have e2 := ptr_pieces hq h2
      rw [h, e2] at e1
      have hb := PtrD.ok_all hp h1
      have hc := PtrD.ok_all hq h2
      simp only [List.cons.injEq, and_true] at e1
      obtain ⟨k1, k2, k3, k4, k5⟩ := e1
      have num : ∀ {m n : Int}, 0 ≤ m ∧ m ≤ 999999999 → 0 ≤ n ∧ n ≤ 999999999 → numB m = numB n → n = m := fun hm hn e => by
        have := numG_num hm
        rw [e, numG_num hn] at this
        have := Option.some.inj this
        omega
      have j1 := num (by omega) (by omega) k1
      have j2 := num (by omega) (by omega) k2
      have j3 := num (by omega) (by omega) k3
      have j4 := num (by omega) (by omega) k4
      have j5 := num (by omega) (by omega) k5
      cases p; cases q
      simp only at j1 j2 j3 j4 j5
      subst j1; subst j2; subst j3; subst j4; subst j5
      rfl

theorem ptrGet_any (s : ByteArray) (w0 : World) (hT : TabP w0) (hM : MaxP w0) (hE : ErrP w0) (hs : s.size ≤ 4294967280) : Calls Tryz.prog 134 #[.string s] w0 fun e w' => (∃ p : PtrD, p.ok = true ∧ ptrB p = s ∧ e = .returned (.tuple #[pV p, .bool true]) ∧ Below w0.heap.size w0 w') ∨ ((∀ p : PtrD, p.ok = true → ptrB p = s → False) ∧ e = .returned (.tuple #[.agg #[.int .i64 0, .int .i64 0, .int .i64 0, .int .i64 0, .int .i64 0], .bool false]) ∧ Below w0.heap.size w0 w') := by
  have HT := Bx.mk hT; have HM := Bx.mk hM; have HE := Bx.mk hE; clear hT hM hE
  have HS := Bx.mk (St.start w0)
  refine wc_enter Tryz.func134 rfl Tryz.ntmps134 [(0, .string s)] ⟨rfl, trivial⟩ rfl ?_; intro a HF
  refine wp_sr ?_
  refine wl_alloc rfl HF rfl rfl rfl (Z := [.int .i64 0, .int .i64 0, .int .i64 0, .int .i64 0, .int .i64 0]) (by kernel_rfl) rfl HS.out ?_; clear HF HS a; intro a w1 b1 HF HS; replace HS := Bx.mk HS
  refine za HF ?_;clear HF a;intro a HF
  refine wl_ne ?_
  refine wp_seq ?_
  refine wp_sr ?_
  refine zm HF ?_;clear HF a;intro a HF
  refine zy HF (yl_eqlS rfl (HF.ev rfl) (HF.ev rfl)) ?_;clear HF a;intro a HF
  refine wl_ne ?_
  refine HF.cases 12 rfl (fun cc1 _ => ?_) fun cc1 _ => ?_
  · clear HF;rename_i HF
    refine wc_true HF rfl ?_
    refine wp_sr ?_
    refine zy HF (yl_build HF rfl (ps := []) rfl (cs := #[.int .i64 0, .int .i64 0, .int .i64 0, .int .i64 0, .int .i64 0]) (by kernel_rfl)) ?_;clear HF a;intro a HF
    refine wl_storeBox rfl HF rfl rfl (HF.ev rfl) (HF.ev rfl) HS.out 0 rfl (cells_lit [.int .i64 0, .int .i64 0, .int .i64 0, .int .i64 0, .int .i64 0] rfl rfl) (by kernel_rfl) ?_; clear HS; intro w2 HS; replace HS := Bx.mk HS
    try dsimp only [List.set] at HS
    refine za HF ?_;clear HF a;intro a HF
    refine wl_ne ?_
    refine wp_ret ?_
    refine ex_then_ret ?_
    refine bp_ret2 HF Tryz.results134 (HF.resBox rfl (HS.out.box 0 rfl) (by kernel_rfl)) (HF.res rfl) ?_
    exact .inl ⟨PtrD.zero, by decide, (ptrB_hole (by decide) (by decide)).trans (bytes_toList cc1).symm, rfl, HS.out.bel⟩
  · clear HF;rename_i HF
    refine wc_false HF rfl ?_
    refine wp_skip ?_
    refine ex_then ?_
    refine wp_sr ?_
    refine wl_alloc rfl HF rfl rfl rfl (Z := [.int .i64 0, .int .i64 0, .int .i64 0, .int .i64 0, .int .i64 0]) (by kernel_rfl) rfl HS.out ?_; clear HF HS a; intro a w3 b2 HF HS; replace HS := Bx.mk HS
    refine wl_ne ?_
    refine wp_sr ?_
    refine zm HF ?_;clear HF a;intro a HF
    refine wl_call rfl HF rfl (enter_of Tryz.func133 (by kernel_rfl) rfl) (args := #[.string s, .string (⟨#[46]⟩ : ByteArray)]) rfl (split_any s 46 _ (by omega) (HM.out.below HS.out.bel)) rfl rfl ?_
    rintro _ w4 ⟨ao3, cp3, rfl, hs⟩
    refine ⟨_, rfl, ?_⟩
    replace HS := Bx.mk (HS.out.add hs);clear hs HF a;intro a HF
    try dsimp only [List.eraseIdx] at HS
    refine za HF ?_;clear HF a;intro a HF
    refine wl_ne ?_
    refine wp_sr ?_
    refine wl_call rfl HF rfl (enter_of Tryz.func156 (by kernel_rfl) rfl) (args := #[.pointer (some ⟨b2, 0, none⟩)]) rfl (parts_any b2 _) rfl rfl ?_
    rintro _ w5 ⟨ao4, cp4, rfl, hs⟩
    refine ⟨_, rfl, ?_⟩
    replace HS := Bx.mk (HS.out.add hs);clear hs HF a;intro a HF
    try dsimp only [List.eraseIdx] at HS
    refine za HF ?_;clear HF a;intro a HF
    refine wl_ne ?_
    refine wp_seq ?_
    refine wp_sr ?_
    refine zm HF ?_;clear HF a;intro a HF
    refine zy HF (yl_lenL (e := 9) (size := 1) rfl (HF.ev rfl) (by kernel_rfl)) ?_;clear HF a;intro a HF
    refine zm HF ?_;clear HF a;intro a HF
    refine zy HF (yl_lenL (e := 171) (size := 1) rfl (HF.ev rfl) (by kernel_rfl)) ?_;clear HF a;intro a HF
    refine zy HF (yl_neqI rfl (HF.ev rfl) (HF.ev rfl)) ?_;clear HF a;intro a HF
    refine wl_ne ?_
    refine HF.cases 21 rfl (fun cc2 _ => ?_) fun cc2 _ => ?_
    · clear HF;rename_i HF
      have dcc2 := bne_iff_ne.1 cc2
      refine wc_true HF rfl ?_
      refine wp_sr ?_
      refine zy HF (yl_build HF rfl (ps := []) rfl (cs := #[.int .i64 0, .int .i64 0, .int .i64 0, .int .i64 0, .int .i64 0]) (by kernel_rfl)) ?_;clear HF a;intro a HF
      refine wl_storeBox rfl HF rfl rfl (HF.ev rfl) (HF.ev rfl) HS.out 3 rfl (cells_lit [.int .i64 0, .int .i64 0, .int .i64 0, .int .i64 0, .int .i64 0] rfl rfl) (by kernel_rfl) ?_; clear HS; intro w6 HS; replace HS := Bx.mk HS
      try dsimp only [List.set] at HS
      refine za HF ?_;clear HF a;intro a HF
      refine wl_ne ?_
      refine wp_ret ?_
      refine ex_then_ret ?_
      refine bp_ret2 HF Tryz.results134 (HF.resBox rfl (HS.out.box 3 rfl) (by kernel_rfl)) (HF.res rfl) ?_
      refine .inr ⟨fun q hq hqs => ?_, rfl, HS.out.bel⟩
      have hqh := ptr_dash hq hqs (by simpa using cc1); have hqp := ptr_pieces hq hqh; rw [hqs] at hqp; have hqb := PtrD.ok_all hq hqh
      rw [hqp] at dcc2; exact dcc2 rfl
    · clear HF;rename_i HF
      have dcc2 := bne_eq_false_iff_eq.1 cc2
      refine wc_false HF rfl ?_
      refine wp_skip ?_
      refine ex_then ?_
      refine wp_seq ?_
      refine wp_seq ?_
      obtain ⟨x0, x1, x2, x3, x4, hws⟩ := len5 (l := piecesB s 46) (by omega); rw [hws] at HS HF
      replace HF : Fr 51 a [(0, .string s), (2, .pointer (some ⟨b1, 0, none⟩)), (3, .bool false), (11, .string s), (12, .bool false), (4, .pointer (some ⟨b2, 0, none⟩)), (14, .string s), (15, .slice ao3 5 cp3), (5, .slice ao3 5 cp3), (16, .slice ao4 5 cp4), (6, .slice ao4 5 cp4), (17, .slice ao3 5 cp3), (19, .slice ao4 5 cp4), (20, .int .i64 (5 : Int)), (21, .bool false)] := HF.less _ ⟨rfl, rfl, rfl, rfl, rfl, rfl, rfl, rfl, rfl, rfl, rfl, rfl, rfl, rfl, rfl, trivial⟩
      try dsimp only [List.eraseIdx] at HS
      obtain ⟨g5, rfl, _, _, _, _⟩ := HS.out.rowOpen 1 rfl (Nat.succ_pos _)
      obtain ⟨g6, rfl, _, _, _, _⟩ := HS.out.rowOpen 0 rfl (Nat.succ_pos _)
      refine wp_region_lit ?_
      refine zm HF ?_;clear HF a;intro a HF
      refine zy HF (yl_lenL (e := 9) (size := 1) rfl (HF.ev rfl) (by kernel_rfl)) ?_;clear HF a;intro a HF
      refine zm HF ?_;clear HF a;intro a HF
      refine wl_ne ?_
      refine wp_block ?_
      refine wc_rounds 6 ?_
      refine wp_sr ?_
      refine zy HF (yl_lssI rfl (HF.ev rfl) (HF.ev rfl)) ?_;clear HF a;intro a HF
      refine wl_ne ?_
      refine wp_seq ?_
      replace HF := HF.know (k := 26) (c := true) rfl (by decide)
      refine wc_true HF rfl ?_
      refine wp_skip ?_
      refine ex_then ?_
      refine wp_seq ?_
      refine wp_block ?_
      refine wp_sr ?_
      refine zm HF ?_;clear HF a;intro a HF
      refine zy HF (yl_indexAddr (e := 9) (i := 0) (size := 1) rfl (HF.ev rfl) (HF.ev rfl) (by kernel_rfl) rfl (by omega)) ?_;clear HF a;intro a HF
      refine zy HF (ylo (v := .string x0) rfl (HF.ev rfl) (HS.out.elem1 encS_len 1 rfl (show ([x0, x1, x2, x3, x4] : List _)[0]? = some _ from rfl) rfl)) ?_;clear HF a;intro a HF
      refine zr 2 HF rfl ?_;clear HF a;intro a HF
      refine wl_ne ?_
      refine wp_sr ?_
      refine zm HF ?_;clear HF a;intro a HF
      refine wl_call rfl HF rfl (enter_of Tryz.func143 (by kernel_rfl) rfl) (args := #[.string x0]) rfl (implNumGet_any x0 _ (HT.out.below HS.out.bel) (HE.out.below HS.out.bel)) rfl rfl ?_
      rintro _ w7 (⟨n7, hg7, rfl, hb⟩ | ⟨hg7, rfl, hb⟩)
      · skip
        refine ⟨_, rfl, ?_⟩; replace HS := Bx.mk (HS.out.later hb);clear hb HF a;intro a HF
        refine zr 5 HF rfl ?_;clear HF a;intro a HF
        refine wl_ne ?_
        refine wp_seq ?_
        refine wp_sr ?_
        refine zr 2 HF rfl ?_;clear HF a;intro a HF
        refine wl_ne ?_
        refine wc_false HF rfl ?_
        refine wp_skip ?_
        refine ex_then ?_
        refine wp_region_lit ?_
        refine zr 2 HF rfl ?_;clear HF a;intro a HF
        refine zy HF (yl_indexAddr (e := 171) (i := 0) (size := 1) rfl (HF.ev rfl) (HF.ev rfl) (by kernel_rfl) rfl (by omega)) ?_;clear HF a;intro a HF
        refine zy HF (ylo (v := .pointer (some ⟨b2, 0 + 0, none⟩)) rfl (HF.ev rfl) (HS.out.elem1 encA_len 0 rfl (show ([(some ⟨b2, 0 + 0, none⟩), (some ⟨b2, 0 + 1, none⟩), (some ⟨b2, 0 + 2, none⟩), (some ⟨b2, 0 + 3, none⟩), (some ⟨b2, 0 + 4, none⟩)] : List (Option Addr))[0]? = some _ from rfl) rfl)) ?_;clear HF a;intro a HF
        refine zr 2 HF rfl ?_;clear HF a;intro a HF
        refine wl_storeF rfl rfl rfl (HF.ev rfl) (HF.ev rfl) (by kernel_rfl) HS.out 2 rfl rfl rfl ?_; clear HS; intro w8 HS; replace HS := Bx.mk HS
        try dsimp only [List.set] at HS
        refine wpList_nil ?_
        refine ex_block ?_
        refine ex_then ?_
        refine wp_region_lit ?_
        refine zy HF (yl_addI (r := 1) rfl (HF.ev rfl) (HF.ev rfl) (by decide)) ?_;clear HF a;intro a HF
        refine zm HF ?_;clear HF a;intro a HF
        refine wl_ne ?_
        refine wc_round 5 ?_
        refine wp_sr ?_
        refine zy HF (yl_lssI rfl (HF.ev rfl) (HF.ev rfl)) ?_;clear HF a;intro a HF
        refine wl_ne ?_
        refine wp_seq ?_
        replace HF := HF.know (k := 26) (c := true) rfl (by decide)
        refine wc_true HF rfl ?_
        refine wp_skip ?_
        refine ex_then ?_
        refine wp_seq ?_
        refine wp_block ?_
        refine wp_sr ?_
        refine zm HF ?_;clear HF a;intro a HF
        refine zy HF (yl_indexAddr (e := 9) (i := 1) (size := 1) rfl (HF.ev rfl) (HF.ev rfl) (by kernel_rfl) rfl (by omega)) ?_;clear HF a;intro a HF
        refine zy HF (ylo (v := .string x1) rfl (HF.ev rfl) (HS.out.elem1 encS_len 1 rfl (show ([x0, x1, x2, x3, x4] : List _)[1]? = some _ from rfl) rfl)) ?_;clear HF a;intro a HF
        refine zr 2 HF rfl ?_;clear HF a;intro a HF
        refine wl_ne ?_
        refine wp_sr ?_
        refine zm HF ?_;clear HF a;intro a HF
        refine wl_call rfl HF rfl (enter_of Tryz.func143 (by kernel_rfl) rfl) (args := #[.string x1]) rfl (implNumGet_any x1 _ (HT.out.below HS.out.bel) (HE.out.below HS.out.bel)) rfl rfl ?_
        rintro _ w9 (⟨n8, hg8, rfl, hb⟩ | ⟨hg8, rfl, hb⟩)
        · skip
          refine ⟨_, rfl, ?_⟩; replace HS := Bx.mk (HS.out.later hb);clear hb HF a;intro a HF
          refine zr 5 HF rfl ?_;clear HF a;intro a HF
          refine wl_ne ?_
          refine wp_seq ?_
          refine wp_sr ?_
          refine zr 2 HF rfl ?_;clear HF a;intro a HF
          refine wl_ne ?_
          refine wc_false HF rfl ?_
          refine wp_skip ?_
          refine ex_then ?_
          refine wp_region_lit ?_
          refine zr 2 HF rfl ?_;clear HF a;intro a HF
          refine zy HF (yl_indexAddr (e := 171) (i := 1) (size := 1) rfl (HF.ev rfl) (HF.ev rfl) (by kernel_rfl) rfl (by omega)) ?_;clear HF a;intro a HF
          refine zy HF (ylo (v := .pointer (some ⟨b2, 0 + 1, none⟩)) rfl (HF.ev rfl) (HS.out.elem1 encA_len 0 rfl (show ([(some ⟨b2, 0 + 0, none⟩), (some ⟨b2, 0 + 1, none⟩), (some ⟨b2, 0 + 2, none⟩), (some ⟨b2, 0 + 3, none⟩), (some ⟨b2, 0 + 4, none⟩)] : List (Option Addr))[1]? = some _ from rfl) rfl)) ?_;clear HF a;intro a HF
          refine zr 2 HF rfl ?_;clear HF a;intro a HF
          refine wl_storeF rfl rfl rfl (HF.ev rfl) (HF.ev rfl) (by kernel_rfl) HS.out 2 rfl rfl rfl ?_; clear HS; intro w10 HS; replace HS := Bx.mk HS
          try dsimp only [List.set] at HS
          refine wpList_nil ?_
          refine ex_block ?_
          refine ex_then ?_
          refine wp_region_lit ?_
          refine zy HF (yl_addI (r := 2) rfl (HF.ev rfl) (HF.ev rfl) (by decide)) ?_;clear HF a;intro a HF
          refine zm HF ?_;clear HF a;intro a HF
          refine wl_ne ?_
          refine wc_round 4 ?_
          refine wp_sr ?_
          refine zy HF (yl_lssI rfl (HF.ev rfl) (HF.ev rfl)) ?_;clear HF a;intro a HF
          refine wl_ne ?_
          refine wp_seq ?_
          replace HF := HF.know (k := 26) (c := true) rfl (by decide)
          refine wc_true HF rfl ?_
          refine wp_skip ?_
          refine ex_then ?_
          refine wp_seq ?_
          refine wp_block ?_
          refine wp_sr ?_
          refine zm HF ?_;clear HF a;intro a HF
          refine zy HF (yl_indexAddr (e := 9) (i := 2) (size := 1) rfl (HF.ev rfl) (HF.ev rfl) (by kernel_rfl) rfl (by omega)) ?_;clear HF a;intro a HF
          refine zy HF (ylo (v := .string x2) rfl (HF.ev rfl) (HS.out.elem1 encS_len 1 rfl (show ([x0, x1, x2, x3, x4] : List _)[2]? = some _ from rfl) rfl)) ?_;clear HF a;intro a HF
          refine zr 2 HF rfl ?_;clear HF a;intro a HF
          refine wl_ne ?_
          refine wp_sr ?_
          refine zm HF ?_;clear HF a;intro a HF
          refine wl_call rfl HF rfl (enter_of Tryz.func143 (by kernel_rfl) rfl) (args := #[.string x2]) rfl (implNumGet_any x2 _ (HT.out.below HS.out.bel) (HE.out.below HS.out.bel)) rfl rfl ?_
          rintro _ w11 (⟨n9, hg9, rfl, hb⟩ | ⟨hg9, rfl, hb⟩)
          · skip
            refine ⟨_, rfl, ?_⟩; replace HS := Bx.mk (HS.out.later hb);clear hb HF a;intro a HF
            refine zr 5 HF rfl ?_;clear HF a;intro a HF
            refine wl_ne ?_
            refine wp_seq ?_
            refine wp_sr ?_
            refine zr 2 HF rfl ?_;clear HF a;intro a HF
            refine wl_ne ?_
            refine wc_false HF rfl ?_
            refine wp_skip ?_
            refine ex_then ?_
            refine wp_region_lit ?_
            refine zr 2 HF rfl ?_;clear HF a;intro a HF
            refine zy HF (yl_indexAddr (e := 171) (i := 2) (size := 1) rfl (HF.ev rfl) (HF.ev rfl) (by kernel_rfl) rfl (by omega)) ?_;clear HF a;intro a HF
            refine zy HF (ylo (v := .pointer (some ⟨b2, 0 + 2, none⟩)) rfl (HF.ev rfl) (HS.out.elem1 encA_len 0 rfl (show ([(some ⟨b2, 0 + 0, none⟩), (some ⟨b2, 0 + 1, none⟩), (some ⟨b2, 0 + 2, none⟩), (some ⟨b2, 0 + 3, none⟩), (some ⟨b2, 0 + 4, none⟩)] : List (Option Addr))[2]? = some _ from rfl) rfl)) ?_;clear HF a;intro a HF
            refine zr 2 HF rfl ?_;clear HF a;intro a HF
            refine wl_storeF rfl rfl rfl (HF.ev rfl) (HF.ev rfl) (by kernel_rfl) HS.out 2 rfl rfl rfl ?_; clear HS; intro w12 HS; replace HS := Bx.mk HS
            try dsimp only [List.set] at HS
            refine wpList_nil ?_
            refine ex_block ?_
            refine ex_then ?_
            refine wp_region_lit ?_
            refine zy HF (yl_addI (r := 3) rfl (HF.ev rfl) (HF.ev rfl) (by decide)) ?_;clear HF a;intro a HF
            refine zm HF ?_;clear HF a;intro a HF
            refine wl_ne ?_
            refine wc_round 3 ?_
            refine wp_sr ?_
            refine zy HF (yl_lssI rfl (HF.ev rfl) (HF.ev rfl)) ?_;clear HF a;intro a HF
            refine wl_ne ?_
            refine wp_seq ?_
            replace HF := HF.know (k := 26) (c := true) rfl (by decide)
            refine wc_true HF rfl ?_
            refine wp_skip ?_
            refine ex_then ?_
            refine wp_seq ?_
            refine wp_block ?_
            refine wp_sr ?_
            refine zm HF ?_;clear HF a;intro a HF
            refine zy HF (yl_indexAddr (e := 9) (i := 3) (size := 1) rfl (HF.ev rfl) (HF.ev rfl) (by kernel_rfl) rfl (by omega)) ?_;clear HF a;intro a HF
            refine zy HF (ylo (v := .string x3) rfl (HF.ev rfl) (HS.out.elem1 encS_len 1 rfl (show ([x0, x1, x2, x3, x4] : List _)[3]? = some _ from rfl) rfl)) ?_;clear HF a;intro a HF
            refine zr 2 HF rfl ?_;clear HF a;intro a HF
            refine wl_ne ?_
            refine wp_sr ?_
            refine zm HF ?_;clear HF a;intro a HF
            refine wl_call rfl HF rfl (enter_of Tryz.func143 (by kernel_rfl) rfl) (args := #[.string x3]) rfl (implNumGet_any x3 _ (HT.out.below HS.out.bel) (HE.out.below HS.out.bel)) rfl rfl ?_
            rintro _ w13 (⟨n10, hg10, rfl, hb⟩ | ⟨hg10, rfl, hb⟩)
            · skip
              refine ⟨_, rfl, ?_⟩; replace HS := Bx.mk (HS.out.later hb);clear hb HF a;intro a HF
              refine zr 5 HF rfl ?_;clear HF a;intro a HF
              refine wl_ne ?_
              refine wp_seq ?_
              refine wp_sr ?_
              refine zr 2 HF rfl ?_;clear HF a;intro a HF
              refine wl_ne ?_
              refine wc_false HF rfl ?_
              refine wp_skip ?_
              refine ex_then ?_
              refine wp_region_lit ?_
              refine zr 2 HF rfl ?_;clear HF a;intro a HF
              refine zy HF (yl_indexAddr (e := 171) (i := 3) (size := 1) rfl (HF.ev rfl) (HF.ev rfl) (by kernel_rfl) rfl (by omega)) ?_;clear HF a;intro a HF
              refine zy HF (ylo (v := .pointer (some ⟨b2, 0 + 3, none⟩)) rfl (HF.ev rfl) (HS.out.elem1 encA_len 0 rfl (show ([(some ⟨b2, 0 + 0, none⟩), (some ⟨b2, 0 + 1, none⟩), (some ⟨b2, 0 + 2, none⟩), (some ⟨b2, 0 + 3, none⟩), (some ⟨b2, 0 + 4, none⟩)] : List (Option Addr))[3]? = some _ from rfl) rfl)) ?_;clear HF a;intro a HF
              refine zr 2 HF rfl ?_;clear HF a;intro a HF
              refine wl_storeF rfl rfl rfl (HF.ev rfl) (HF.ev rfl) (by kernel_rfl) HS.out 2 rfl rfl rfl ?_; clear HS; intro w14 HS; replace HS := Bx.mk HS
              try dsimp only [List.set] at HS
              refine wpList_nil ?_
              refine ex_block ?_
              refine ex_then ?_
              refine wp_region_lit ?_
              refine zy HF (yl_addI (r := 4) rfl (HF.ev rfl) (HF.ev rfl) (by decide)) ?_;clear HF a;intro a HF
              refine zm HF ?_;clear HF a;intro a HF
              refine wl_ne ?_
              refine wc_round 2 ?_
              refine wp_sr ?_
              refine zy HF (yl_lssI rfl (HF.ev rfl) (HF.ev rfl)) ?_;clear HF a;intro a HF
              refine wl_ne ?_
              refine wp_seq ?_
              replace HF := HF.know (k := 26) (c := true) rfl (by decide)
              refine wc_true HF rfl ?_
              refine wp_skip ?_
              refine ex_then ?_
              refine wp_seq ?_
              refine wp_block ?_
              refine wp_sr ?_
              refine zm HF ?_;clear HF a;intro a HF
              refine zy HF (yl_indexAddr (e := 9) (i := 4) (size := 1) rfl (HF.ev rfl) (HF.ev rfl) (by kernel_rfl) rfl (by omega)) ?_;clear HF a;intro a HF
              refine zy HF (ylo (v := .string x4) rfl (HF.ev rfl) (HS.out.elem1 encS_len 1 rfl (show ([x0, x1, x2, x3, x4] : List _)[4]? = some _ from rfl) rfl)) ?_;clear HF a;intro a HF
              refine zr 2 HF rfl ?_;clear HF a;intro a HF
              refine wl_ne ?_
              refine wp_sr ?_
              refine zm HF ?_;clear HF a;intro a HF
              refine wl_call rfl HF rfl (enter_of Tryz.func143 (by kernel_rfl) rfl) (args := #[.string x4]) rfl (implNumGet_any x4 _ (HT.out.below HS.out.bel) (HE.out.below HS.out.bel)) rfl rfl ?_
              rintro _ w15 (⟨n11, hg11, rfl, hb⟩ | ⟨hg11, rfl, hb⟩)
              · skip
                refine ⟨_, rfl, ?_⟩; replace HS := Bx.mk (HS.out.later hb);clear hb HF a;intro a HF
                refine zr 5 HF rfl ?_;clear HF a;intro a HF
                refine wl_ne ?_
                refine wp_seq ?_
                refine wp_sr ?_
                refine zr 2 HF rfl ?_;clear HF a;intro a HF
                refine wl_ne ?_
                refine wc_false HF rfl ?_
                refine wp_skip ?_
                refine ex_then ?_
                refine wp_region_lit ?_
                refine zr 2 HF rfl ?_;clear HF a;intro a HF
                refine zy HF (yl_indexAddr (e := 171) (i := 4) (size := 1) rfl (HF.ev rfl) (HF.ev rfl) (by kernel_rfl) rfl (by omega)) ?_;clear HF a;intro a HF
                refine zy HF (ylo (v := .pointer (some ⟨b2, 0 + 4, none⟩)) rfl (HF.ev rfl) (HS.out.elem1 encA_len 0 rfl (show ([(some ⟨b2, 0 + 0, none⟩), (some ⟨b2, 0 + 1, none⟩), (some ⟨b2, 0 + 2, none⟩), (some ⟨b2, 0 + 3, none⟩), (some ⟨b2, 0 + 4, none⟩)] : List (Option Addr))[4]? = some _ from rfl) rfl)) ?_;clear HF a;intro a HF
                refine zr 2 HF rfl ?_;clear HF a;intro a HF
                refine wl_storeF rfl rfl rfl (HF.ev rfl) (HF.ev rfl) (by kernel_rfl) HS.out 2 rfl rfl rfl ?_; clear HS; intro w16 HS; replace HS := Bx.mk HS
                try dsimp only [List.set] at HS
                refine wpList_nil ?_
                refine ex_block ?_
                refine ex_then ?_
                refine wp_region_lit ?_
                refine zy HF (yl_addI (r := 5) rfl (HF.ev rfl) (HF.ev rfl) (by decide)) ?_;clear HF a;intro a HF
                refine zm HF ?_;clear HF a;intro a HF
                refine wl_ne ?_
                refine wc_round 1 ?_
                refine wp_sr ?_
                refine zy HF (yl_lssI rfl (HF.ev rfl) (HF.ev rfl)) ?_;clear HF a;intro a HF
                refine wl_ne ?_
                refine wp_seq ?_
                replace HF := HF.know (k := 26) (c := false) rfl (by decide)
                refine wc_false HF rfl ?_
                refine wp_exit ?_
                refine ex_then_exit ?_
                refine ex_then_exit ?_
                refine ex_block_hit ?_
                refine ex_then ?_
                refine wp_seq ?_
                refine wp_sr ?_
                refine zy HF (ylr (cs := [.int .i64 (n7 : Int), .int .i64 (n8 : Int), .int .i64 (n9 : Int), .int .i64 (n10 : Int), .int .i64 (n11 : Int)]) rfl (HF.ev rfl) ((HS.out.box 2 rfl).sub 0 5)) ?_;clear HF a;intro a HF
                refine wl_callB rfl HF rfl (enter_of Tryz.func157 (by kernel_rfl) rfl) (args := #[.agg #[.int .i64 (n7 : Int), .int .i64 (n8 : Int), .int .i64 (n9 : Int), .int .i64 (n10 : Int), .int .i64 (n11 : Int)]]) rfl (v := .string (ptrB (⟨(n7 : Int), (n8 : Int), (n9 : Int), (n10 : Int), (n11 : Int)⟩ : PtrD))) (ptrPutI_any (⟨(n7 : Int), (n8 : Int), (n9 : Int), (n10 : Int), (n11 : Int)⟩ : PtrD) _ (HT.out.below HS.out.bel)) rfl rfl HS.out ?_; clear HF HS a; intro w17 a HS HF; replace HS := Bx.mk HS
                refine zm HF ?_;clear HF a;intro a HF
                refine zy HF (yl_neqS rfl (HF.ev rfl) (HF.ev rfl)) ?_;clear HF a;intro a HF
                refine wl_ne ?_
                refine HF.cases 48 rfl (fun cc3 _ => ?_) fun cc3 _ => ?_
                · clear HF;rename_i HF
                  refine wc_true HF rfl ?_
                  refine wp_sr ?_
                  refine zy HF (yl_build HF rfl (ps := []) rfl (cs := #[.int .i64 0, .int .i64 0, .int .i64 0, .int .i64 0, .int .i64 0]) (by kernel_rfl)) ?_;clear HF a;intro a HF
                  refine wl_storeBox rfl HF rfl rfl (HF.ev rfl) (HF.ev rfl) HS.out 3 rfl (cells_lit [.int .i64 0, .int .i64 0, .int .i64 0, .int .i64 0, .int .i64 0] rfl rfl) (by kernel_rfl) ?_; clear HS; intro w18 HS; replace HS := Bx.mk HS
                  try dsimp only [List.set] at HS
                  refine za HF ?_;clear HF a;intro a HF
                  refine wl_ne ?_
                  refine wp_ret ?_
                  refine ex_then_ret ?_
                  refine bp_ret2 HF Tryz.results134 (HF.resBox rfl (HS.out.box 3 rfl) (by kernel_rfl)) (HF.res rfl) ?_
                  refine .inr ⟨fun q hq hqs => ?_, rfl, HS.out.bel⟩
                  have hqh := ptr_dash hq hqs (by simpa using cc1); have hqp := ptr_pieces hq hqh; rw [hqs] at hqp; have hqb := PtrD.ok_all hq hqh
                  rw [hws] at hqp; simp only [List.cons.injEq, and_true] at hqp; obtain ⟨k0, k1, k2, k3, k4⟩ := hqp
                  rw [k0] at hg7; have j0 := num_read (n := q.fAt) (by omega) hg7
                  rw [k1] at hg8; have j1 := num_read (n := q.fBirth) (by omega) hg8
                  rw [k2] at hg9; have j2 := num_read (n := q.fSize) (by omega) hg9
                  rw [k3] at hg10; have j3 := num_read (n := q.fSum) (by omega) hg10
                  rw [k4] at hg11; have j4 := num_read (n := q.fLevel) (by omega) hg11
                  have hpq : (⟨(n7 : Int), (n8 : Int), (n9 : Int), (n10 : Int), (n11 : Int)⟩ : PtrD) = q := by rw [j0, j1, j2, j3, j4]
                  rw [hpq, hqs] at cc3; simp at cc3
                · clear HF;rename_i HF
                  refine wc_false HF rfl ?_
                  refine wp_skip ?_
                  refine ex_then ?_
                  refine wp_sr ?_
                  refine zy HF (ylr (cs := [.int .i64 (n7 : Int), .int .i64 (n8 : Int), .int .i64 (n9 : Int), .int .i64 (n10 : Int), .int .i64 (n11 : Int)]) rfl (HF.ev rfl) ((HS.out.box 2 rfl).sub 0 5)) ?_;clear HF a;intro a HF
                  refine wl_storeBox rfl HF rfl rfl (HF.ev rfl) (HF.ev rfl) HS.out 3 rfl (cells_lit [.int .i64 (n7 : Int), .int .i64 (n8 : Int), .int .i64 (n9 : Int), .int .i64 (n10 : Int), .int .i64 (n11 : Int)] rfl rfl) (by kernel_rfl) ?_; clear HS; intro w19 HS; replace HS := Bx.mk HS
                  try dsimp only [List.set] at HS
                  refine za HF ?_;clear HF a;intro a HF
                  refine wl_ne ?_
                  refine wp_ret ?_
                  refine bp_ret2 HF Tryz.results134 (HF.resBox rfl (HS.out.box 3 rfl) (by kernel_rfl)) (HF.res rfl) ?_
                  have hpt : ptrB (⟨(n7 : Int), (n8 : Int), (n9 : Int), (n10 : Int), (n11 : Int)⟩ : PtrD) = s := bytes_toList (by simpa using cc3)
                  have hpo : (⟨(n7 : Int), (n8 : Int), (n9 : Int), (n10 : Int), (n11 : Int)⟩ : PtrD).ok = true := by
                      cases ho : (⟨(n7 : Int), (n8 : Int), (n9 : Int), (n10 : Int), (n11 : Int)⟩ : PtrD).ok with
                      | true => rfl
                      | false =>
                        rw [ptrB_no ho] at hpt
                        rw [← hpt] at hws
                        exact absurd (congrArg List.length hws) (show ¬ (1 : Nat) = 5 by decide)
                  exact .inl ⟨_, hpo, hpt, rfl, HS.out.bel⟩
              · skip
                refine ⟨_, rfl, ?_⟩; replace HS := Bx.mk (HS.out.later hb);clear hb HF a;intro a HF
                refine zr 5 HF rfl ?_;clear HF a;intro a HF
                refine wl_ne ?_
                refine wp_seq ?_
                refine wp_sr ?_
                refine zr 2 HF rfl ?_;clear HF a;intro a HF
                refine wl_ne ?_
                refine wc_true HF rfl ?_
                refine wp_sr ?_
                refine zy HF (yl_build HF rfl (ps := []) rfl (cs := #[.int .i64 0, .int .i64 0, .int .i64 0, .int .i64 0, .int .i64 0]) (by kernel_rfl)) ?_;clear HF a;intro a HF
                refine wl_storeBox rfl HF rfl rfl (HF.ev rfl) (HF.ev rfl) HS.out 3 rfl (cells_lit [.int .i64 0, .int .i64 0, .int .i64 0, .int .i64 0, .int .i64 0] rfl rfl) (by kernel_rfl) ?_; clear HS; intro w20 HS; replace HS := Bx.mk HS
                try dsimp only [List.set] at HS
                refine za HF ?_;clear HF a;intro a HF
                refine wl_ne ?_
                refine wp_ret ?_
                refine ex_then_ret ?_
                refine ex_block_ret ?_
                refine ex_then_ret ?_
                refine ex_then_ret ?_
                refine ex_block_ret ?_
                refine ex_then_ret ?_
                refine bp_ret2 HF Tryz.results134 (HF.resBox rfl (HS.out.box 3 rfl) (by kernel_rfl)) (HF.res rfl) ?_
                refine .inr ⟨fun q hq hqs => ?_, rfl, HS.out.bel⟩
                have hqh := ptr_dash hq hqs (by simpa using cc1); have hqp := ptr_pieces hq hqh; rw [hqs] at hqp; have hqb := PtrD.ok_all hq hqh
                rw [hws] at hqp; simp only [List.cons.injEq, and_true] at hqp; obtain ⟨k0, k1, k2, k3, k4⟩ := hqp
                rw [k4, numG_num (by omega)] at hg11; cases hg11
            · skip
              refine ⟨_, rfl, ?_⟩; replace HS := Bx.mk (HS.out.later hb);clear hb HF a;intro a HF
              refine zr 5 HF rfl ?_;clear HF a;intro a HF
              refine wl_ne ?_
              refine wp_seq ?_
              refine wp_sr ?_
              refine zr 2 HF rfl ?_;clear HF a;intro a HF
              refine wl_ne ?_
              refine wc_true HF rfl ?_
              refine wp_sr ?_
              refine zy HF (yl_build HF rfl (ps := []) rfl (cs := #[.int .i64 0, .int .i64 0, .int .i64 0, .int .i64 0, .int .i64 0]) (by kernel_rfl)) ?_;clear HF a;intro a HF
              refine wl_storeBox rfl HF rfl rfl (HF.ev rfl) (HF.ev rfl) HS.out 3 rfl (cells_lit [.int .i64 0, .int .i64 0, .int .i64 0, .int .i64 0, .int .i64 0] rfl rfl) (by kernel_rfl) ?_; clear HS; intro w21 HS; replace HS := Bx.mk HS
              try dsimp only [List.set] at HS
              refine za HF ?_;clear HF a;intro a HF
              refine wl_ne ?_
              refine wp_ret ?_
              refine ex_then_ret ?_
              refine ex_block_ret ?_
              refine ex_then_ret ?_
              refine ex_then_ret ?_
              refine ex_block_ret ?_
              refine ex_then_ret ?_
              refine bp_ret2 HF Tryz.results134 (HF.resBox rfl (HS.out.box 3 rfl) (by kernel_rfl)) (HF.res rfl) ?_
              refine .inr ⟨fun q hq hqs => ?_, rfl, HS.out.bel⟩
              have hqh := ptr_dash hq hqs (by simpa using cc1); have hqp := ptr_pieces hq hqh; rw [hqs] at hqp; have hqb := PtrD.ok_all hq hqh
              rw [hws] at hqp; simp only [List.cons.injEq, and_true] at hqp; obtain ⟨k0, k1, k2, k3, k4⟩ := hqp
              rw [k3, numG_num (by omega)] at hg10; cases hg10
          · skip
            refine ⟨_, rfl, ?_⟩; replace HS := Bx.mk (HS.out.later hb);clear hb HF a;intro a HF
            refine zr 5 HF rfl ?_;clear HF a;intro a HF
            refine wl_ne ?_
            refine wp_seq ?_
            refine wp_sr ?_
            refine zr 2 HF rfl ?_;clear HF a;intro a HF
            refine wl_ne ?_
            refine wc_true HF rfl ?_
            refine wp_sr ?_
            refine zy HF (yl_build HF rfl (ps := []) rfl (cs := #[.int .i64 0, .int .i64 0, .int .i64 0, .int .i64 0, .int .i64 0]) (by kernel_rfl)) ?_;clear HF a;intro a HF
            refine wl_storeBox rfl HF rfl rfl (HF.ev rfl) (HF.ev rfl) HS.out 3 rfl (cells_lit [.int .i64 0, .int .i64 0, .int .i64 0, .int .i64 0, .int .i64 0] rfl rfl) (by kernel_rfl) ?_; clear HS; intro w22 HS; replace HS := Bx.mk HS
            try dsimp only [List.set] at HS
            refine za HF ?_;clear HF a;intro a HF
            refine wl_ne ?_
            refine wp_ret ?_
            refine ex_then_ret ?_
            refine ex_block_ret ?_
            refine ex_then_ret ?_
            refine ex_then_ret ?_
            refine ex_block_ret ?_
            refine ex_then_ret ?_
            refine bp_ret2 HF Tryz.results134 (HF.resBox rfl (HS.out.box 3 rfl) (by kernel_rfl)) (HF.res rfl) ?_
            refine .inr ⟨fun q hq hqs => ?_, rfl, HS.out.bel⟩
            have hqh := ptr_dash hq hqs (by simpa using cc1); have hqp := ptr_pieces hq hqh; rw [hqs] at hqp; have hqb := PtrD.ok_all hq hqh
            rw [hws] at hqp; simp only [List.cons.injEq, and_true] at hqp; obtain ⟨k0, k1, k2, k3, k4⟩ := hqp
            rw [k2, numG_num (by omega)] at hg9; cases hg9
        · skip
          refine ⟨_, rfl, ?_⟩; replace HS := Bx.mk (HS.out.later hb);clear hb HF a;intro a HF
          refine zr 5 HF rfl ?_;clear HF a;intro a HF
          refine wl_ne ?_
          refine wp_seq ?_
          refine wp_sr ?_
          refine zr 2 HF rfl ?_;clear HF a;intro a HF
          refine wl_ne ?_
          refine wc_true HF rfl ?_
          refine wp_sr ?_
          refine zy HF (yl_build HF rfl (ps := []) rfl (cs := #[.int .i64 0, .int .i64 0, .int .i64 0, .int .i64 0, .int .i64 0]) (by kernel_rfl)) ?_;clear HF a;intro a HF
          refine wl_storeBox rfl HF rfl rfl (HF.ev rfl) (HF.ev rfl) HS.out 3 rfl (cells_lit [.int .i64 0, .int .i64 0, .int .i64 0, .int .i64 0, .int .i64 0] rfl rfl) (by kernel_rfl) ?_; clear HS; intro w23 HS; replace HS := Bx.mk HS
          try dsimp only [List.set] at HS
          refine za HF ?_;clear HF a;intro a HF
          refine wl_ne ?_
          refine wp_ret ?_
          refine ex_then_ret ?_
          refine ex_block_ret ?_
          refine ex_then_ret ?_
          refine ex_then_ret ?_
          refine ex_block_ret ?_
          refine ex_then_ret ?_
          refine bp_ret2 HF Tryz.results134 (HF.resBox rfl (HS.out.box 3 rfl) (by kernel_rfl)) (HF.res rfl) ?_
          refine .inr ⟨fun q hq hqs => ?_, rfl, HS.out.bel⟩
          have hqh := ptr_dash hq hqs (by simpa using cc1); have hqp := ptr_pieces hq hqh; rw [hqs] at hqp; have hqb := PtrD.ok_all hq hqh
          rw [hws] at hqp; simp only [List.cons.injEq, and_true] at hqp; obtain ⟨k0, k1, k2, k3, k4⟩ := hqp
          rw [k1, numG_num (by omega)] at hg8; cases hg8
      · skip
        refine ⟨_, rfl, ?_⟩; replace HS := Bx.mk (HS.out.later hb);clear hb HF a;intro a HF
        refine zr 5 HF rfl ?_;clear HF a;intro a HF
        refine wl_ne ?_
        refine wp_seq ?_
        refine wp_sr ?_
        refine zr 2 HF rfl ?_;clear HF a;intro a HF
        refine wl_ne ?_
        refine wc_true HF rfl ?_
        refine wp_sr ?_
        refine zy HF (yl_build HF rfl (ps := []) rfl (cs := #[.int .i64 0, .int .i64 0, .int .i64 0, .int .i64 0, .int .i64 0]) (by kernel_rfl)) ?_;clear HF a;intro a HF
        refine wl_storeBox rfl HF rfl rfl (HF.ev rfl) (HF.ev rfl) HS.out 3 rfl (cells_lit [.int .i64 0, .int .i64 0, .int .i64 0, .int .i64 0, .int .i64 0] rfl rfl) (by kernel_rfl) ?_; clear HS; intro w24 HS; replace HS := Bx.mk HS
        try dsimp only [List.set] at HS
        refine za HF ?_;clear HF a;intro a HF
        refine wl_ne ?_
        refine wp_ret ?_
        refine ex_then_ret ?_
        refine ex_block_ret ?_
        refine ex_then_ret ?_
        refine ex_then_ret ?_
        refine ex_block_ret ?_
        refine ex_then_ret ?_
        refine bp_ret2 HF Tryz.results134 (HF.resBox rfl (HS.out.box 3 rfl) (by kernel_rfl)) (HF.res rfl) ?_
        refine .inr ⟨fun q hq hqs => ?_, rfl, HS.out.bel⟩
        have hqh := ptr_dash hq hqs (by simpa using cc1); have hqp := ptr_pieces hq hqh; rw [hqs] at hqp; have hqb := PtrD.ok_all hq hqh
        rw [hws] at hqp; simp only [List.cons.injEq, and_true] at hqp; obtain ⟨k0, k1, k2, k3, k4⟩ := hqp
        rw [k0, numG_num (by omega)] at hg7; cases hg7

end Go.Proofs.YtgaodbdadncfhaaGreatDoor

/- Fans: the text of four pointers, and what a text tells. -/
namespace Go.Proofs.YtgaodbdadncfhaaGreatDoor
set_option linter.unusedVariables false
set_option linter.unusedSimpArgs false
set_option maxHeartbeats 1000000
set_option maxRecDepth 100000
open Go.RowKit Go.Lib

def comB : ByteArray := ⟨#[44]⟩
def fanB (l : List PtrD) : ByteArray := joinT (l.map ptrB) comB

theorem splitL_joinL (c : UInt8) : ∀ (x : List UInt8) (r : List (List UInt8)), (∀ y ∈ x :: r, ∀ b ∈ y, b ≠ c) → splitL c (Go.Lib.join (x :: r) [c]) = x :: r
  | x, [], h => by
    rw [show Go.Lib.join [x] [c] = x by simp [Go.Lib.join, Go.Lib.joinTail]]
    exact splitL_none c x (h x (List.mem_cons_self ..))
  | x, y :: r, h => by
    have e : Go.Lib.join (x :: y :: r) [c] = x ++ c :: Go.Lib.join (y :: r) [c] := by simp [Go.Lib.join, Go.Lib.joinTail]
    rw [e, splitL_app c _ x (h x (List.mem_cons_self ..)), splitL_joinL c y r fun z hz => h z (List.mem_cons_of_mem _ hz)]
/-- What was joined is cut to the same pieces. -/
theorem pieces_join {l : List ByteArray} {c : UInt8} (hne : l ≠ []) (h : ∀ y ∈ l, ∀ b ∈ y.data.toList, b ≠ c) : piecesB (joinT l ⟨#[c]⟩) c = l := by
  match l, hne with
  | x :: r, _ =>
    unfold piecesB joinT
    show (splitL c (Go.Lib.join ((x :: r).map (·.data.toList)) [c])).map _ = _
    rw [List.map_cons, splitL_joinL c _ _ (fun y hy b hb => by
      rcases List.mem_cons.1 hy with rfl | hy
      · exact h x (List.mem_cons_self ..) b hb
      · obtain ⟨z, hz, rfl⟩ := List.mem_map.1 hy
        exact h z (List.mem_cons_of_mem _ hz) b hb), ← List.map_cons (f := fun y : ByteArray => y.data.toList)]
    exact map_back (x :: r)
theorem dec_not (c : UInt8) (hc : digitVal c = none) (n : Nat) : ∀ x ∈ (decB n).data.toList, x ≠ c := by
  intro x hx e
  subst e
  obtain ⟨d, hd⟩ := digits_all n x (by rw [← decB_list]; exact hx)
  rw [hc] at hd
  cases hd
theorem num_not (c : UInt8) (hc : digitVal c = none) (n : Int) : ∀ x ∈ (numB n).data.toList, x ≠ c := by
  unfold numB
  split
  · exact dec_not c hc _
  · intro x hx; simp at hx
theorem ptr_no44 (p : PtrD) : ∀ x ∈ (ptrB p).data.toList, x ≠ 44 := by
  cases h : p.ok with
  | false => rw [ptrB_no h]; intro x hx; simp at hx
  | true =>
    cases hh : p.hole with
    | true => rw [ptrB_hole h hh]; intro x hx; rw [show x = 45 from by simpa using hx]; decide
    | false =>
      rw [ptrB_yes h hh]
      intro x hx
      have hn := fun n => num_not 44 (by decide) n x
      simp only [list_append, List.mem_append, show dotB.data.toList = [46] from rfl, List.mem_singleton] at hx
      rcases hx with (((((((hx | hx) | hx) | hx) | hx) | hx) | hx) | hx) | hx
      all_goals first | exact hn _ hx | (rw [hx]; decide)
theorem fan_pieces {l : List PtrD} (hne : l ≠ []) : piecesB (fanB l) 44 = l.map ptrB := by
  refine pieces_join (by simpa using hne) fun y hy => ?_
  obtain ⟨p, _, rfl⟩ := List.mem_map.1 hy
  exact ptr_no44 p
/-- The text of four pointers that are valid and no four holes. -/
structure IsFan (s : ByteArray) (l : List PtrD) : Prop where
  n : l.length = 4
  ok : ∀ p ∈ l, p.ok = true
  some : l.all (fun p => p.hole) = false
  is : fanB l = s
theorem map_inj {l m : List PtrD} (hl : ∀ p ∈ l, p.ok = true) (hm : ∀ p ∈ m, p.ok = true) (h : l.map ptrB = m.map ptrB) : l = m := by
  induction l generalizing m with
  | nil => cases m with
    | nil => rfl
    | cons _ _ => simp at h
  | cons p l ih => cases m with
    | nil => simp at h
    | cons q m =>
      simp only [List.map_cons, List.cons.injEq] at h
      rw [ptrB_inj (hl p (List.mem_cons_self ..)) (hm q (List.mem_cons_self ..)) h.1, ih (fun x hx => hl x (List.mem_cons_of_mem _ hx)) (fun x hx => hm x (List.mem_cons_of_mem _ hx)) h.2]
theorem IsFan.one {s : ByteArray} {l m : List PtrD} (h : IsFan s l) (k : IsFan s m) : l = m := by
  refine map_inj h.ok k.ok ?_
  rw [← fan_pieces (l := l) (fun e => by have := h.n; rw [e] at this; cases this), ← fan_pieces (l := m) (fun e => by have := k.n; rw [e] at this; cases this), h.is, k.is]
theorem IsFan.pieces {s : ByteArray} {l : List PtrD} (h : IsFan s l) : piecesB s 44 = l.map ptrB := by
  rw [← h.is]
  exact fan_pieces fun e => by have := h.n; rw [e] at this; cases this
open Classical in
noncomputable def fanG (s : ByteArray) : Option (List PtrD) := if h : ∃ l, IsFan s l then some h.choose else none
theorem fanG_yes {s : ByteArray} {l : List PtrD} (h : IsFan s l) : fanG s = some l := by
  have he : ∃ l, IsFan s l := ⟨l, h⟩
  unfold fanG
  rw [dif_pos he, he.choose_spec.one h]
theorem fanG_no {s : ByteArray} (h : ∀ l, ¬ IsFan s l) : fanG s = none := by
  unfold fanG
  rw [dif_neg fun ⟨l, hl⟩ => h l hl]
end Go.Proofs.YtgaodbdadncfhaaGreatDoor

/- Trees of blocks: what they tell, plain. -/
namespace Go.Proofs.YtgaodbdadncfhaaGreatDoor
set_option linter.unusedVariables false
set_option linter.unusedSimpArgs false
set_option maxHeartbeats 1000000
set_option maxRecDepth 100000
open Go.RowKit

/-- A pointer fits a text. -/
def fitsB (p : PtrD) (s : ByteArray) : Bool := p.ok && (!p.hole && ((p.fSize == (s.size : Int)) && (p.fSum == sumOf s)))
def rowAt (st : StoreD) (p : PtrD) : ByteArray := st.fRows.getD p.fAt.toNat ByteArray.empty
def readT (st : StoreD) (p : PtrD) : ByteArray := bif p.hole then ByteArray.empty else bif fitsB p (rowAt st p) then rowAt st p else ByteArray.empty
def readB (st : StoreD) (p : PtrD) : Bool := bif p.hole then true else fitsB p (rowAt st p)
theorem readT_hole {st : StoreD} {p : PtrD} (h : p.hole = true) : readT st p = ByteArray.empty := by unfold readT; rw [h]; rfl
theorem readB_hole {st : StoreD} {p : PtrD} (h : p.hole = true) : readB st p = true := by unfold readB; rw [h]; rfl
theorem readT_yes {st : StoreD} {p : PtrD} (h : p.hole = false) (hf : fitsB p (rowAt st p) = true) : readT st p = rowAt st p := by unfold readT; rw [h, hf]; rfl
theorem readT_no {st : StoreD} {p : PtrD} (h : p.hole = false) (hf : fitsB p (rowAt st p) = false) : readT st p = ByteArray.empty := by unfold readT; rw [h, hf]; rfl
theorem readB_is {st : StoreD} {p : PtrD} (h : p.hole = false) : readB st p = fitsB p (rowAt st p) := by unfold readB; rw [h]; rfl
def holes4 : List PtrD := [PtrD.zero, PtrD.zero, PtrD.zero, PtrD.zero]
/-- The pointers below a pointer of a level. -/
noncomputable def kids (st : StoreD) (p : PtrD) (level : Int) : Option (List PtrD) :=
  bif p.hole then some holes4 else bif readB st p && (p.fLevel == level) then (fanG (readT st p)).bind fun l => bif l.any (fun k => decide (p.fBirth < k.fBirth)) then none else some l else none
/-- As the reference asks: valid, and born in the store's time. -/
noncomputable def kidsS (st : StoreD) (p : PtrD) (level : Int) : Option (List PtrD) :=
  bif p.hole then some holes4 else bif p.ok && ((p.fLevel == level) && decide (p.fBirth ≤ st.fTxg)) then kids st p level else none
theorem kids_hole {st : StoreD} {p : PtrD} {n : Int} (h : p.hole = true) : kids st p n = some holes4 := by unfold kids; rw [h]; rfl
theorem kidsS_hole {st : StoreD} {p : PtrD} {n : Int} (h : p.hole = true) : kidsS st p n = some holes4 := by unfold kidsS; rw [h]; rfl
theorem kids_unread {st : StoreD} {p : PtrD} {n : Int} (h : p.hole = false) (hr : readB st p = false) : kids st p n = none := by unfold kids; rw [h, hr]; rfl
theorem kids_level {st : StoreD} {p : PtrD} {n : Int} (h : p.hole = false) (hr : (p.fLevel == n) = false) : kids st p n = none := by unfold kids; rw [h, hr, Bool.and_false]; rfl
theorem kids_nofan {st : StoreD} {p : PtrD} {n : Int} (h : p.hole = false) (hf : ∀ l, ¬ IsFan (readT st p) l) : kids st p n = none := by
  unfold kids
  rw [h, fanG_no hf]
  cases (readB st p && (p.fLevel == n)) <;> rfl
theorem kids_born {st : StoreD} {p : PtrD} {n : Int} {l : List PtrD} (h : p.hole = false) (hf : IsFan (readT st p) l) (hb : l.any (fun k => decide (p.fBirth < k.fBirth)) = true) : kids st p n = none := by
  unfold kids
  rw [h, fanG_yes hf]
  cases (readB st p && (p.fLevel == n))
  · rfl
  · simp only [cond_true, cond_false, Option.bind_some, hb]
theorem kids_yes {st : StoreD} {p : PtrD} {n : Int} {l : List PtrD} (h : p.hole = false) (hr : readB st p = true) (hn : (p.fLevel == n) = true) (hf : IsFan (readT st p) l) (hb : l.any (fun k => decide (p.fBirth < k.fBirth)) = false) : kids st p n = some l := by
  unfold kids
  rw [h, fanG_yes hf, hr, hn]
  simp only [cond_true, cond_false, Option.bind_some, hb, Bool.and_self]
/-- What stands below: four valid pointers, no younger. -/
theorem kids_are {st : StoreD} {p : PtrD} {n : Int} {l : List PtrD} (h : kids st p n = some l) : l.length = 4 ∧ (∀ k ∈ l, k.ok = true) ∧ (p.hole = true ∧ l = holes4 ∨ p.hole = false ∧ p.fLevel = n ∧ readB st p = true ∧ IsFan (readT st p) l ∧ ∀ k ∈ l, k.fBirth ≤ p.fBirth) := by
  cases hh : p.hole with
  | true =>
    rw [kids_hole hh] at h
    obtain rfl := Option.some.inj h
    exact ⟨rfl, fun k hk => by simp only [holes4, List.mem_cons, List.not_mem_nil, or_false, or_self] at hk; rw [hk]; rfl, .inl ⟨rfl, rfl⟩⟩
  | false =>
    cases hr : readB st p with
    | false => rw [kids_unread hh hr] at h; cases h
    | true =>
      cases hn : (p.fLevel == n) with
      | false => rw [kids_level hh hn] at h; cases h
      | true =>
        by_cases hf : ∃ m, IsFan (readT st p) m
        · obtain ⟨m, hm⟩ := hf
          cases hb : m.any (fun k => decide (p.fBirth < k.fBirth)) with
          | true => rw [kids_born hh hm hb] at h; cases h
          | false =>
            rw [kids_yes hh hr hn hm hb] at h
            obtain rfl := Option.some.inj h
            refine ⟨hm.n, hm.ok, .inr ⟨rfl, eq_of_beq hn, rfl, hm, fun k hk => ?_⟩⟩
            have := (List.any_eq_false.1 hb) k hk
            have := of_decide_eq_false (by simpa using this : decide (p.fBirth < k.fBirth) = false)
            omega
        · rw [kids_nofan hh fun l hl => hf ⟨l, hl⟩] at h; cases h
theorem kidsS_eq {st : StoreD} {p : PtrD} {n : Int} (hp : p.ok = true) (hb : p.fBirth ≤ st.fTxg) : kidsS st p n = kids st p n := by
  unfold kidsS
  rw [hp, decide_eq_true hb, Bool.and_true, Bool.true_and]
  cases hh : p.hole with
  | true => rw [kids_hole hh]; rfl
  | false =>
    cases hn : (p.fLevel == n) with
    | false => rw [kids_level hh hn]; rfl
    | true => rfl
theorem kidsS_no {st : StoreD} {p : PtrD} {n : Int} (h : p.hole = false) (hn : (p.ok && ((p.fLevel == n) && decide (p.fBirth ≤ st.fTxg))) = false) : kidsS st p n = none := by unfold kidsS; rw [h, hn]; rfl
theorem kidsS_are {st : StoreD} {p : PtrD} {n : Int} {l : List PtrD} (h : kidsS st p n = some l) : kids st p n = some l ∧ (p.hole = false → p.ok = true ∧ p.fBirth ≤ st.fTxg) := by
  cases hh : p.hole with
  | true => rw [kidsS_hole hh] at h; rw [kids_hole hh]; exact ⟨h, fun e => by cases e⟩
  | false =>
    cases hc : (p.ok && ((p.fLevel == n) && decide (p.fBirth ≤ st.fTxg))) with
    | false => rw [kidsS_no hh hc] at h; cases h
    | true =>
      unfold kidsS at h
      rw [hh, hc] at h
      simp only [Bool.and_eq_true, decide_eq_true_eq] at hc
      exact ⟨h, fun _ => ⟨hc.1, hc.2.2⟩⟩
/-- A level of pointers, from the one above. -/
noncomputable def nextL (f : PtrD → Option (List PtrD)) : List PtrD → Option (List PtrD)
  | [] => some []
  | p :: r => (f p).bind fun k => (nextL f r).map (k ++ ·)
theorem nextL_no {f : PtrD → Option (List PtrD)} {p : PtrD} {r : List PtrD} (h : f p = none) : nextL f (p :: r) = none := by show Option.bind _ _ = _; rw [h]; rfl
theorem nextL_yes {f : PtrD → Option (List PtrD)} {p : PtrD} {r k : List PtrD} (h : f p = some k) : nextL f (p :: r) = (nextL f r).map (k ++ ·) := by show Option.bind _ _ = _; rw [h]; rfl
theorem map_app {o : Option (List PtrD)} (a b : List PtrD) : (o.map (b ++ ·)).map (a ++ ·) = o.map ((a ++ b) ++ ·) := by cases o <;> simp
theorem nextL_congr {f g : PtrD → Option (List PtrD)} : ∀ {l : List PtrD}, (∀ p ∈ l, f p = g p) → nextL f l = nextL g l
  | [], _ => rfl
  | p :: r, h => by
    show Option.bind _ _ = Option.bind _ _
    rw [h p (List.mem_cons_self ..), nextL_congr fun q hq => h q (List.mem_cons_of_mem _ hq)]
theorem nextL_mem {f : PtrD → Option (List PtrD)} : ∀ {l m : List PtrD}, nextL f l = some m → (∀ p ∈ l, ∃ k, f p = some k) ∧ (∀ q ∈ m, ∃ p ∈ l, ∃ k, f p = some k ∧ q ∈ k) ∧ (∀ p ∈ l, ∀ k, f p = some k → ∀ q ∈ k, q ∈ m)
  | [], m, h => by
    obtain rfl : [] = m := Option.some.inj h
    exact ⟨fun p hp => (nomatch hp), fun p hp => (nomatch hp), fun p hp => (nomatch hp)⟩
  | p :: r, m, h => by
    cases hk : f p with
    | none => rw [nextL_no hk] at h; cases h
    | some k =>
      rw [nextL_yes hk] at h
      cases hn : nextL f r with
      | none => rw [hn] at h; cases h
      | some n =>
        rw [hn] at h
        obtain rfl : k ++ n = m := Option.some.inj h
        obtain ⟨i1, i2, i3⟩ := nextL_mem hn
        refine ⟨fun q hq => ?_, fun q hq => ?_, fun q hq k2 hk2 x hx => ?_⟩
        · rcases List.mem_cons.1 hq with rfl | hq
          · exact ⟨k, hk⟩
          · exact i1 q hq
        · rcases List.mem_append.1 hq with hq | hq
          · exact ⟨p, List.mem_cons_self .., k, hk, hq⟩
          · obtain ⟨y, hy, z, hz, hq⟩ := i2 q hq
            exact ⟨y, List.mem_cons_of_mem _ hy, z, hz, hq⟩
        · rcases List.mem_cons.1 hq with rfl | hq
          · rw [hk] at hk2
            obtain rfl := Option.some.inj hk2
            exact List.mem_append_left _ hx
          · exact List.mem_append_right _ (i3 q hq k2 hk2 x hx)
theorem nextL_len {f : PtrD → Option (List PtrD)} (hf : ∀ p k, f p = some k → k.length = 4) : ∀ {l m : List PtrD}, nextL f l = some m → m.length = 4 * l.length
  | [], m, h => by obtain rfl : [] = m := Option.some.inj h; rfl
  | p :: r, m, h => by
    cases hk : f p with
    | none => rw [nextL_no hk] at h; cases h
    | some k =>
      rw [nextL_yes hk] at h
      cases hn : nextL f r with
      | none => rw [hn] at h; cases h
      | some n =>
        rw [hn] at h
        obtain rfl : k ++ n = m := Option.some.inj h
        have := nextL_len hf hn
        rw [List.length_append, hf p k hk, List.length_cons]; omega
/-- All places, level by level. -/
noncomputable def downL (f : PtrD → Int → Option (List PtrD)) : Nat → List PtrD → Option (List PtrD)
  | 0, l => some l
  | n + 1, l => (nextL (fun p => f p ((n + 1 : Nat) : Int)) l).bind (downL f n)
theorem downL_no {f : PtrD → Int → Option (List PtrD)} {n : Nat} {l : List PtrD} (h : nextL (fun p => f p ((n + 1 : Nat) : Int)) l = none) : downL f (n + 1) l = none := by show Option.bind _ _ = _; rw [h]; rfl
theorem downL_yes {f : PtrD → Int → Option (List PtrD)} {n : Nat} {l m : List PtrD} (h : nextL (fun p => f p ((n + 1 : Nat) : Int)) l = some m) : downL f (n + 1) l = downL f n m := by show Option.bind _ _ = _; rw [h]; rfl
theorem downL_len {f : PtrD → Int → Option (List PtrD)} (hf : ∀ p n k, f p n = some k → k.length = 4) : ∀ {n : Nat} {l m : List PtrD}, downL f n l = some m → m.length = 4 ^ n * l.length
  | 0, l, m, h => by obtain rfl : l = m := Option.some.inj h; omega
  | n + 1, l, m, h => by
    cases hn : nextL (fun p => f p ((n + 1 : Nat) : Int)) l with
    | none => rw [downL_no hn] at h; cases h
    | some x =>
      rw [downL_yes hn] at h
      rw [downL_len hf h, nextL_len (fun p k => hf p _ k) hn, Nat.pow_succ, Nat.mul_assoc]
def depthN (many : Int) : Nat := if many ≤ 1 then 0 else if many ≤ 4 then 1 else 2
theorem depthN_le (many : Int) : depthN many ≤ 2 := by unfold depthN; split <;> (try split) <;> omega
theorem depthN_fan {many : Int} (h : many ≤ 16) : many ≤ ((4 ^ depthN many : Nat) : Int) := by
  unfold depthN
  split
  · simp; omega
  · split
    · simp; omega
    · simp; omega
/-- A place that is as it must be. -/
def leafB (st : StoreD) (many : Int) (i : Nat) (p : PtrD) : Bool := bif p.hole then p.fLevel == 0 else readB st p && ((p.fLevel == 0) && decide ((i : Int) < many))
def leavesB (st : StoreD) (many : Int) : Nat → List PtrD → Bool
  | _, [] => true
  | i, p :: r => leafB st many i p && leavesB st many (i + 1) r
def topB (st : StoreD) (t : TreeD) : Bool := inB t.fMany 0 16 && ((t.fDepth == (depthN t.fMany : Int)) && (t.fRoot.ok && decide (t.fRoot.fBirth ≤ st.fTxg)))
/-- The pointers of all places of a valid tree. -/
noncomputable def leavesF (st : StoreD) (t : TreeD) : Option (List PtrD) :=
  bif topB st t then (downL (kids st) (depthN t.fMany) [t.fRoot]).bind fun l => bif leavesB st t.fMany 0 l then some (l.take t.fMany.toNat) else none else none
noncomputable def treeOk (st : StoreD) (t : TreeD) : Bool := (leavesF st t).isSome
theorem leavesF_top {st : StoreD} {t : TreeD} (h : topB st t = false) : leavesF st t = none := by unfold leavesF; rw [h]; rfl
theorem leavesF_down {st : StoreD} {t : TreeD} (h : downL (kids st) (depthN t.fMany) [t.fRoot] = none) : leavesF st t = none := by
  unfold leavesF
  cases topB st t
  · rfl
  · rw [h]; rfl
theorem leavesF_bad {st : StoreD} {t : TreeD} {l : List PtrD} (h : downL (kids st) (depthN t.fMany) [t.fRoot] = some l) (hb : leavesB st t.fMany 0 l = false) : leavesF st t = none := by
  unfold leavesF
  cases topB st t
  · rfl
  · rw [h]
    simp only [cond_true, cond_false, Option.bind_some, hb]
theorem leavesF_yes {st : StoreD} {t : TreeD} {l : List PtrD} (h0 : topB st t = true) (h : downL (kids st) (depthN t.fMany) [t.fRoot] = some l) (hb : leavesB st t.fMany 0 l = true) : leavesF st t = some (l.take t.fMany.toNat) := by
  unfold leavesF
  rw [h0, h]
  simp only [cond_true, cond_false, Option.bind_some, hb]
theorem kids_len {st : StoreD} {p : PtrD} {n : Int} {k : List PtrD} (h : kids st p n = some k) : k.length = 4 := (kids_are h).1
theorem leavesF_is {st : StoreD} {t : TreeD} {r : List PtrD} (h : leavesF st t = some r) : ∃ l, topB st t = true ∧ downL (kids st) (depthN t.fMany) [t.fRoot] = some l ∧ leavesB st t.fMany 0 l = true ∧ r = l.take t.fMany.toNat ∧ l.length = 4 ^ depthN t.fMany ∧ r.length = t.fMany.toNat := by
  cases h0 : topB st t with
  | false => rw [leavesF_top h0] at h; cases h
  | true =>
    cases h1 : downL (kids st) (depthN t.fMany) [t.fRoot] with
    | none => rw [leavesF_down h1] at h; cases h
    | some l =>
      cases h2 : leavesB st t.fMany 0 l with
      | false => rw [leavesF_bad h1 h2] at h; cases h
      | true =>
        rw [leavesF_yes h0 h1 h2] at h
        obtain rfl := Option.some.inj h
        have hl : l.length = 4 ^ depthN t.fMany := by rw [downL_len (fun p n k => kids_len) h1]; simp
        refine ⟨l, rfl, rfl, h2, rfl, hl, ?_⟩
        unfold topB at h0
        rw [Bool.and_eq_true] at h0
        have hi := inB_true h0.1
        have := depthN_fan hi.2
        rw [List.length_take, hl]
        omega
/-! ### The reference's way is the program's -/
theorem young_down {st : StoreD} : ∀ {n : Nat} {l : List PtrD}, (∀ p ∈ l, p.ok = true ∧ p.fBirth ≤ st.fTxg) → 0 ≤ st.fTxg → downL (kidsS st) n l = downL (kids st) n l ∧ ∀ m, downL (kids st) n l = some m → ∀ p ∈ m, p.ok = true ∧ p.fBirth ≤ st.fTxg
  | 0, l, h, _ => ⟨rfl, fun m hm p hp => by obtain rfl : l = m := Option.some.inj hm; exact h p hp⟩
  | n + 1, l, h, h0 => by
    have e : nextL (fun p => kidsS st p ((n + 1 : Nat) : Int)) l = nextL (fun p => kids st p ((n + 1 : Nat) : Int)) l := nextL_congr fun p hp => kidsS_eq (h p hp).1 (h p hp).2
    cases hn : nextL (fun p => kids st p ((n + 1 : Nat) : Int)) l with
    | none => rw [downL_no (e.trans hn), downL_no hn]; exact ⟨rfl, fun m hm => by cases hm⟩
    | some x =>
      rw [downL_yes (e.trans hn), downL_yes hn]
      refine young_down (fun q hq => ?_) h0
      obtain ⟨p, hp, k, hk, hq⟩ := (nextL_mem hn).2.1 q hq
      obtain ⟨_, ok, hc⟩ := kids_are hk
      refine ⟨ok q hq, ?_⟩
      rcases hc with ⟨_, rfl⟩ | ⟨_, _, _, _, hb⟩
      · simp only [holes4, List.mem_cons, List.not_mem_nil, or_false, or_self] at hq
        rw [hq]; exact h0
      · have := hb q hq; have := (h p hp).2; omega
/-- As the reference asks a place. -/
def leafS (st : StoreD) (many : Int) (i : Nat) (p : PtrD) : Bool := bif p.hole then true else readB st p && ((p.fLevel == 0) && (decide (p.fBirth ≤ st.fTxg) && decide ((i : Int) < many)))
def leavesS (st : StoreD) (many : Int) : Nat → List PtrD → Bool
  | _, [] => true
  | i, p :: r => leafS st many i p && leavesS st many (i + 1) r
theorem hole_level {p : PtrD} (h : p.hole = true) : p.fLevel = 0 := by rw [hole_zero h]; rfl
theorem hole_birth {p : PtrD} (h : p.hole = true) : p.fBirth = 0 := by rw [hole_zero h]; rfl
theorem leafS_eq {st : StoreD} {many : Int} {i : Nat} {p : PtrD} (h : p.fBirth ≤ st.fTxg) : leafS st many i p = leafB st many i p := by
  unfold leafS leafB
  cases hh : p.hole with
  | true => show true = (p.fLevel == 0); rw [hole_level hh]; rfl
  | false => rw [decide_eq_true h, Bool.true_and]; rfl
theorem leavesS_eq {st : StoreD} {many : Int} : ∀ {i : Nat} {l : List PtrD}, (∀ p ∈ l, p.fBirth ≤ st.fTxg) → leavesS st many i l = leavesB st many i l
  | _, [], _ => rfl
  | i, p :: r, h => by
    show (_ && _) = (_ && _)
    rw [leafS_eq (h p (List.mem_cons_self ..)), leavesS_eq fun q hq => h q (List.mem_cons_of_mem _ hq)]
def topS (t : TreeD) : Bool := inB t.fMany 0 16 && ((t.fDepth == (depthN t.fMany : Int)) && t.fRoot.ok)
noncomputable def okS (st : StoreD) (t : TreeD) : Bool := topS t && match downL (kidsS st) (depthN t.fMany) [t.fRoot] with | none => false | some l => leavesS st t.fMany 0 l
theorem okS_top {st : StoreD} {t : TreeD} (h : topS t = false) : okS st t = false := by unfold okS; rw [h]; rfl
theorem okS_down {st : StoreD} {t : TreeD} (h : downL (kidsS st) (depthN t.fMany) [t.fRoot] = none) : okS st t = false := by unfold okS; rw [h, Bool.and_false]
theorem okS_is {st : StoreD} {t : TreeD} {l : List PtrD} (h0 : topS t = true) (h : downL (kidsS st) (depthN t.fMany) [t.fRoot] = some l) : okS st t = leavesS st t.fMany 0 l := by unfold okS; rw [h0, h]; rfl
theorem okS_eq {st : StoreD} {t : TreeD} (h0 : 0 ≤ st.fTxg) : okS st t = treeOk st t := by
  unfold treeOk
  cases ht : topS t with
  | false =>
    rw [okS_top ht, leavesF_top (by unfold topB; unfold topS at ht; rw [← Bool.and_assoc, ← Bool.and_assoc]; rw [← Bool.and_assoc] at ht; rw [ht]; rfl)]; rfl
  | true =>
    have hok : t.fRoot.ok = true := by unfold topS at ht; simp only [Bool.and_eq_true] at ht; exact ht.2.2
    by_cases hb : t.fRoot.fBirth ≤ st.fTxg
    · have htop : topB st t = true := by unfold topB; unfold topS at ht; rw [decide_eq_true hb, Bool.and_true]; exact ht
      obtain ⟨e, hy⟩ := young_down (st := st) (n := depthN t.fMany) (l := [t.fRoot]) (fun p hp => by rw [List.mem_singleton.1 hp]; exact ⟨hok, hb⟩) h0
      cases hd : downL (kids st) (depthN t.fMany) [t.fRoot] with
      | none => rw [okS_down (e.trans hd), leavesF_down hd]; rfl
      | some l =>
        rw [okS_is ht (e.trans hd), leavesS_eq fun p hp => (hy l hd p hp).2]
        cases hl : leavesB st t.fMany 0 l with
        | true => rw [leavesF_yes htop hd hl]; rfl
        | false => rw [leavesF_bad hd hl]; rfl
    · have htop : topB st t = false := by unfold topB; rw [decide_eq_false hb]; simp
      rw [leavesF_top htop]
      have hh : t.fRoot.hole = false := by
        cases hh : t.fRoot.hole with
        | false => rfl
        | true => have := hole_birth hh; omega
      cases hd : depthN t.fMany with
      | zero =>
        rw [okS_is (l := [t.fRoot]) ht (by rw [hd]; rfl)]
        show (leafS st t.fMany 0 t.fRoot && true) = false
        unfold leafS
        rw [hh, decide_eq_false hb]; simp
      | succ n =>
        rw [okS_down (by rw [hd]; exact downL_no (nextL_no (kidsS_no hh (by rw [decide_eq_false hb]; simp))))]; rfl
/-! ### All pointers of a tree, each ahead of what is below it -/
noncomputable def allL (st : StoreD) : Nat → PtrD → List PtrD
  | 0, p => bif p.hole then [] else [p]
  | n + 1, p => bif p.hole then [] else p :: ((kids st p ((n + 1 : Nat) : Int)).getD []).flatMap (allL st n)
theorem allL_hole {st : StoreD} {p : PtrD} (h : p.hole = true) : ∀ n, allL st n p = []
  | 0 => by unfold allL; rw [h]; rfl
  | n + 1 => by unfold allL; rw [h]; rfl
theorem allL_zero {st : StoreD} {p : PtrD} (h : p.hole = false) : allL st 0 p = [p] := by unfold allL; rw [h]; rfl
theorem allL_succ {st : StoreD} {p : PtrD} {n : Nat} {l : List PtrD} (h : p.hole = false) (hk : kids st p ((n + 1 : Nat) : Int) = some l) : allL st (n + 1) p = p :: l.flatMap (allL st n) := by
  show (bif p.hole then [] else p :: ((kids st p ((n + 1 : Nat) : Int)).getD []).flatMap (allL st n)) = _
  rw [h, hk]; rfl
/-- A pointer at a level of a valid tree, with all below it. -/
def Wf (st : StoreD) : Nat → PtrD → Prop
  | 0, p => p.ok = true ∧ p.fBirth ≤ st.fTxg ∧ p.fLevel = 0 ∧ readB st p = true
  | n + 1, p => p.ok = true ∧ p.fBirth ≤ st.fTxg ∧ ∃ l, kids st p ((n + 1 : Nat) : Int) = some l ∧ ∀ k ∈ l, Wf st n k
theorem Wf.ok {st : StoreD} : ∀ {n : Nat} {p : PtrD}, Wf st n p → p.ok = true ∧ p.fBirth ≤ st.fTxg
  | 0, _, h => ⟨h.1, h.2.1⟩
  | _ + 1, _, h => ⟨h.1, h.2.1⟩
theorem Wf.level {st : StoreD} : ∀ {n : Nat} {p : PtrD}, Wf st n p → p.hole = false → p.fLevel = (n : Int)
  | 0, _, h, _ => h.2.2.1
  | n + 1, p, ⟨_, _, l, hk, _⟩, hh => by
    rcases (kids_are hk).2.2 with ⟨e, _⟩ | ⟨_, e, _⟩
    · rw [hh] at e; cases e
    · exact e
theorem Wf.zero {st : StoreD} (h0 : 0 ≤ st.fTxg) : ∀ n, Wf st n PtrD.zero
  | 0 => ⟨rfl, h0, rfl, rfl⟩
  | n + 1 => ⟨rfl, h0, holes4, kids_hole rfl, fun k hk => by
    simp only [holes4, List.mem_cons, List.not_mem_nil, or_false, or_self] at hk
    rw [hk]; exact Wf.zero h0 n⟩
theorem leavesB_all {st : StoreD} {many : Int} : ∀ {i : Nat} {l : List PtrD}, leavesB st many i l = true → ∀ p ∈ l, p.fLevel = 0 ∧ readB st p = true
  | _, [], _, p, hp => by cases hp
  | i, q :: r, h, p, hp => by
    have h : (leafB st many i q && leavesB st many (i + 1) r) = true := h
    rw [Bool.and_eq_true] at h
    rcases List.mem_cons.1 hp with rfl | hp
    · have h1 := h.1
      unfold leafB at h1
      cases hh : p.hole with
      | true => exact ⟨hole_level hh, readB_hole hh⟩
      | false =>
        rw [hh] at h1
        have h1 : (readB st p && ((p.fLevel == 0) && decide ((i : Int) < many))) = true := h1
        simp only [Bool.and_eq_true, beq_iff_eq] at h1
        exact ⟨h1.2.1, h1.1⟩
    · exact leavesB_all h.2 p hp
theorem wf_down {st : StoreD} {many : Int} : ∀ {n : Nat} {l m : List PtrD}, (∀ p ∈ l, p.ok = true ∧ p.fBirth ≤ st.fTxg) → 0 ≤ st.fTxg → downL (kids st) n l = some m → (∀ p ∈ m, p.fLevel = 0 ∧ readB st p = true) → ∀ p ∈ l, Wf st n p
  | 0, l, m, h, _, hd, hl, p, hp => by
    obtain rfl : l = m := Option.some.inj hd
    exact ⟨(h p hp).1, (h p hp).2, (hl p hp).1, (hl p hp).2⟩
  | n + 1, l, m, h, h0, hd, hl, p, hp => by
    cases hn : nextL (fun p => kids st p ((n + 1 : Nat) : Int)) l with
    | none => rw [downL_no hn] at hd; cases hd
    | some x =>
      rw [downL_yes hn] at hd
      obtain ⟨i1, i2, i3⟩ := nextL_mem hn
      have hx : ∀ q ∈ x, q.ok = true ∧ q.fBirth ≤ st.fTxg := fun q hq => by
        obtain ⟨p, hp, k, hk, hq⟩ := i2 q hq
        obtain ⟨_, ok, hc⟩ := kids_are hk
        refine ⟨ok q hq, ?_⟩
        rcases hc with ⟨_, rfl⟩ | ⟨_, _, _, _, hb⟩
        · simp only [holes4, List.mem_cons, List.not_mem_nil, or_false, or_self] at hq
          rw [hq]; exact h0
        · have := hb q hq; have := (h p hp).2; omega
      have ih := wf_down (many := many) hx h0 hd hl
      obtain ⟨k, hk⟩ := i1 p hp
      exact ⟨(h p hp).1, (h p hp).2, k, hk, fun q hq => ih q (i3 p hp k hk q hq)⟩
theorem tree_wf {st : StoreD} {t : TreeD} {r : List PtrD} (h : leavesF st t = some r) (h0 : 0 ≤ st.fTxg) : t.fDepth = (depthN t.fMany : Int) ∧ Wf st (depthN t.fMany) t.fRoot := by
  obtain ⟨l, ht, hd, hl, _⟩ := leavesF_is h
  unfold topB at ht
  simp only [Bool.and_eq_true, beq_iff_eq, decide_eq_true_eq] at ht
  exact ⟨ht.2.1, wf_down (many := t.fMany) (fun p hp => by rw [List.mem_singleton.1 hp]; exact ht.2.2) h0 hd (leavesB_all hl) _ (List.mem_cons_self ..)⟩
end Go.Proofs.YtgaodbdadncfhaaGreatDoor

/- Records read by the reference, plain: the number at the head of a text, as the reference reads it. -/
namespace Go.Proofs.YtgaodbdadncfhaaGreatDoor
set_option linter.unusedVariables false
set_option linter.unusedSimpArgs false
set_option maxHeartbeats 1000000
set_option maxRecDepth 100000
open Go.RowKit Go.Lib

theorem digit58 : digitVal 58 = none := by decide
/-- A number that was read, with a colon behind it. -/
theorem l1S_num {s : ByteArray} {n k : Nat} (h : l1S s n k) (h0 : k ≠ 0) (hc : s.data.toList[k]? = some 58) : k < s.size ∧ numG (s.extract 0 k) = some n := by
  have hz := size_list s
  have hk : k < s.data.toList.length := (List.getElem?_eq_some_iff.1 hc).1
  refine ⟨by omega, ?_⟩
  rcases h with ⟨h1, h2, h3, _, h5⟩ | ⟨rfl, rfl, _, b, d, h4, h6⟩
  · have hsz : (s.extract 0 k).size = k := by rw [ByteArray.size_extract]; omega
    have hl : (s.extract 0 k).data.toList = s.data.toList.take k := by rw [list_extract]; simp
    refine l1S_yes (k := k) (.inl ⟨h1, by omega, by rw [hl, List.take_take, Nat.min_self]; exact h3, .inl hsz.symm, fun hx => h5 ⟨hx.1, ?_⟩⟩) h0 hsz.symm
    rw [hl] at hx
    match hx2 : s.data.toList, hk with
    | a :: r, _ =>
      rw [hx2] at hx
      match k, h0 with
      | k + 1, _ => exact hx.2
  · rw [hc] at h4
    obtain rfl := Option.some.inj h4
    rw [digit58] at h6; cases h6
theorem decFrom_none {l : List UInt8} {b : UInt8} (hb : b ∈ l) (hd : digitVal b = none) : ∀ acc, decFrom acc l = none := by
  induction l with
  | nil => cases hb
  | cons c r ih =>
    intro acc
    unfold decFrom
    rcases List.mem_cons.1 hb with rfl | hb
    · rw [hd]
    · cases digitVal c with
      | none => rfl
      | some d => exact ih hb _
/-- What the reference reads where a number and a colon stand. -/
theorem l1S_dec {s : ByteArray} {n k m : Nat} {t : List UInt8} (h : l1S s n k) (hm : m ≤ 999999999) (hs : s.data.toList = (decB m).data.toList ++ 58 :: t) : k = (decB m).size ∧ n = m ∧ s.data.toList[k]? = some 58 := by
  have hz := size_list s
  have hd9 := decB_9 hm
  have hdp := decB_pos m
  have hdz := size_list (decB m)
  have hall := digits_all m
  rw [← decB_list] at hall
  have hlen : s.data.toList.length = (decB m).data.toList.length + (t.length + 1) := by rw [hs, List.length_append, List.length_cons]
  have hcol : s.data.toList[(decB m).size]? = some 58 := by rw [hs, hdz, List.getElem?_append_right (Nat.le_refl _), Nat.sub_self]; rfl
  have hin : ∀ i, i < (decB m).size → ∃ b d, s.data.toList[i]? = some b ∧ digitVal b = some d := fun i hi => by
    have hi2 : i < (decB m).data.toList.length := by omega
    obtain ⟨d, hd⟩ := hall _ (List.getElem_mem hi2)
    exact ⟨_, d, by rw [hs, List.getElem?_append_left hi2, List.getElem?_eq_getElem hi2], hd⟩
  have hk : k = (decB m).size := by
    rcases h with ⟨h1, h2, h3, h4, _⟩ | ⟨rfl, rfl, h3, b, d, h4, h6⟩
    · rcases Nat.lt_trichotomy k (decB m).size with hlt | he | hgt
      · obtain ⟨b, d, hb, hd⟩ := hin k hlt
        rcases h4 with h4 | h4 | ⟨c, h4, h6⟩
        · omega
        · omega
        · rw [hb] at h4
          obtain rfl := Option.some.inj h4
          rw [hd] at h6; cases h6
      · exact he
      · have hmem : (58 : UInt8) ∈ s.data.toList.take k := by
          refine List.mem_of_getElem? (i := (decB m).size) ?_
          rw [List.getElem?_take, if_pos hgt]; exact hcol
        rw [decFrom_none hmem digit58] at h3; cases h3
    · rcases Nat.lt_or_ge m 10 with hlt | hge
      · have h1 : (decB m).size = 1 := by rw [hdz, decB_list, decDigits_one hlt]; rfl
        rw [h1] at hcol
        rw [hcol] at h4
        obtain rfl := Option.some.inj h4
        rw [digit58] at h6; cases h6
      · obtain ⟨e, he, h1, h9⟩ := digits_head m hge
        rw [← decB_list] at he
        have : s.data.toList.head? = (decB m).data.toList.head? := by
          rw [hs]
          match hq : (decB m).data.toList, hdp, hdz with
          | a :: r, _, _ => rfl
          | [], hp, hq2 => have hz0 : ([] : List UInt8).length = 0 := rfl; omega
        rw [this, he] at h3
        have hv := Option.some.inj h3
        have : (UInt8.ofNat (48 + e)).toNat = 48 + e := by rw [UInt8.toNat_ofNat']; omega
        rw [hv] at this
        have : (48 : UInt8).toNat = 48 := rfl
        omega
  refine ⟨hk, ?_, by rw [hk]; exact hcol⟩
  have hnum := l1S_num h (by omega) (by rw [hk]; exact hcol)
  have he : s.extract 0 k = decB m := ba_ext (by rw [list_extract, hs, hk, hdz]; simp)
  rw [he, numG_dec hm] at hnum
  exact (Option.some.inj hnum.2).symm
theorem rest_list {s : ByteArray} (i : Nat) : (s.extract i s.size).data.toList = s.data.toList.drop i := by
  rw [list_extract, List.take_of_length_le (by rw [List.length_drop, ← size_list]; exact Nat.le_refl _)]
/-- A field read by the reference. -/
theorem fld_step {s : ByteArray} {xs : List ByteArray} {p k n : Nat} (h : RdTo s xs (s.extract p s.size)) (hl : l1S (s.extract p s.size) n k) (h0 : k ≠ 0) (hk : p + k < s.size) (hc : s.get! (p + k) = 58) (hn : n ≤ s.size - (p + k + 1)) : RdTo s (xs ++ [s.extract (p + k + 1) (p + k + 1 + n)]) (s.extract (p + k + 1 + n) s.size) := by
  have hz := size_list s
  have hcol : (s.extract p s.size).data.toList[k]? = some 58 := by rw [rest_list, List.getElem?_drop, get_q hk, hc]
  obtain ⟨hk2, hnum⟩ := l1S_num hl h0 hcol
  have hcut : (s.extract p s.size).data.toList = ((s.extract p s.size).extract 0 k).data.toList ++ 58 :: (s.extract (p + k + 1) s.size).data.toList := by
    rw [list_extract (a := s.extract p s.size), rest_list, rest_list, List.drop_zero, Nat.sub_zero]
    have e : (s.data.toList.drop p).drop k = 58 :: s.data.toList.drop (p + k + 1) := by
      rw [List.drop_drop]
      have hlt : p + k < s.data.toList.length := by omega
      rw [List.drop_eq_getElem_cons hlt]
      have := get_q hk
      rw [List.getElem?_eq_getElem hlt] at this
      rw [Option.some.inj this, hc]
    rw [← e, List.take_append_drop]
  have hsz : (s.extract (p + k + 1) s.size).size = s.size - (p + k + 1) := by rw [ByteArray.size_extract]; omega
  have := h.step hcut hnum (by omega)
  have e1 : (s.extract (p + k + 1) s.size).extract 0 n = s.extract (p + k + 1) (p + k + 1 + n) := ba_ext (by
    rw [list_extract, rest_list, list_extract, List.drop_zero]
    congr 1; omega)
  have e2 : (s.extract (p + k + 1) s.size).extract n (s.extract (p + k + 1) s.size).size = s.extract (p + k + 1 + n) s.size := ba_ext (by
    rw [rest_list, rest_list, rest_list, List.drop_drop])
  rw [e1, e2] at this
  exact this
/-- Where a record goes on, the reference reads on. -/
theorem fld_go {s : ByteArray} {xs l : List ByteArray} {p k n : Nat} (h : RdTo s xs (s.extract p s.size)) (hl : l1S (s.extract p s.size) n k) (hr : IsRec s l) (hs : s.size ≤ 2048) (hp : p < s.size) : k ≠ 0 ∧ p + k < s.size ∧ s.get! (p + k) = 58 ∧ n ≤ s.size - (p + k + 1) := by
  have hz := size_list s
  have hsz : (s.extract p s.size).size = s.size - p := by rw [ByteArray.size_extract]; omega
  have hne : ((s.extract p s.size).toList == (⟨#[]⟩ : ByteArray).toList) = false := by
    cases hq : ((s.extract p s.size).toList == (⟨#[]⟩ : ByteArray).toList) with
    | false => rfl
    | true =>
      have := bytes_toList hq
      rw [this] at hsz
      have : (⟨#[]⟩ : ByteArray).size = 0 := rfl
      omega
  obtain ⟨y, ws, e1, e2, e3, e4⟩ := h.go hr.is hs hr.many hne
  have hy := (numG_some e3).1
  obtain ⟨k1, k2, k3⟩ := l1S_dec hl hy e2
  have hp1 := decB_pos y.size
  have hlen := congrArg List.length e2
  rw [List.length_append, List.length_cons, List.length_append, ← size_list, ← size_list, ← size_list, hsz] at hlen
  have hkl : p + k < s.size := by omega
  refine ⟨by omega, hkl, ?_, by omega⟩
  rw [rest_list, List.getElem?_drop, get_q hkl] at k3
  exact Option.some.inj k3
theorem fld_rest {s : ByteArray} {xs : List ByteArray} {p : Nat} (h : RdTo s xs (s.extract p s.size)) (hp : ¬ p < s.size) : recB xs = s := by
  refine h.done ?_
  have : s.extract p s.size = (⟨#[]⟩ : ByteArray) := ba_ext (by rw [rest_list, List.drop_eq_nil_of_le (by rw [← size_list]; omega)])
  rw [this]; exact beq_self_eq_true _
end Go.Proofs.YtgaodbdadncfhaaGreatDoor

/- Trees and roots read: walked. -/
namespace Go.Proofs.YtgaodbdadncfhaaGreatDoor
set_option linter.unusedVariables false
set_option linter.unusedSimpArgs false
set_option maxHeartbeats 1000000
set_option maxRecDepth 100000
open Go.RowKit

section
variable {P : Program} {o : Oper} {a : Act} {w : World} {e : TypeId}
theorem yl_sliceLH {t : TypeId} {x y z : Operand} (ho : o.op = .slice t x (some y) (some z) none) {g off n cap : Nat} (hx : a.eval x = .slice (some ⟨g, off, none⟩) n cap) {kk kl : IntKind} {m l : Int} (hy : a.eval y = .int kk m) (hz : a.eval z = .int kl l) {size : Nat} (hu : elemOf? P t = some (e, size)) {k j : Nat} (hm : m = (k : Int)) (hl : l = (j : Int)) (hk : k ≤ j) (hj : j ≤ cap) (hc : k < cap) : Yl P w o a (.slice (some ⟨g, off + k * size, none⟩) (j - k) (cap - k)) := by
  unfold elemOf? at hu
  split at hu
  · rename_i e' hu'
    split at hu
    · rename_i inf hq
      simp only [Option.some.injEq, Prod.mk.injEq] at hu
      obtain ⟨_, rfl⟩ := hu
      subst hm; subst hl
      have h2 : ((k : Int) ≤ (j : Int)) := by omega
      have h4 : ((j : Int) ≤ (cap : Int)) := by omega
      have h3 : ¬ cap = k := by omega
      unfold Yl execOp
      simp only [ho, hx, hy, hz, Option.map_some, Option.map_none, Instr.sliceAt, Instr.slice, Sem.run_bind, run_underlying hu' w, Result.andThen_ok]
      simp [Instr.slice, Instr.sliceBounds, Instr.sliceBound, asIntOf, go_sem, run_underlying hu' w, sizeOf, typeInfo, hq, h2, h3, h4, Addr.add]
      rw [if_pos hj]
      by_cases hz : k * inf.size = 0
      · rw [if_pos hz, if_pos hk, hz, Nat.add_zero]
      · rw [if_neg hz, if_pos hk]
    · cases hu
  · cases hu
end
theorem num_back {y : ByteArray} {n : Nat} (h : numG y = some n) : 0 ≤ (n : Int) ∧ (n : Int) ≤ 999999999 ∧ numB (n : Int) = y := by
  have h1 := numG_some h
  refine ⟨by omega, by omega, ?_⟩
  rw [numB_in (by omega) (by omega), Int.toNat_natCast, h1.2]
/-- What three fields tell. -/
structure IsTree (x y z : ByteArray) (t : TreeD) : Prop where
  ok : t.fRoot.ok = true
  p : ptrB t.fRoot = x
  d : 0 ≤ t.fDepth ∧ t.fDepth ≤ 999999999 ∧ numB t.fDepth = y
  m : 0 ≤ t.fMany ∧ t.fMany ≤ 999999999 ∧ numB t.fMany = z
theorem num_one {m n : Int} {y : ByteArray} (h : 0 ≤ m ∧ m ≤ 999999999 ∧ numB m = y) (k : 0 ≤ n ∧ n ≤ 999999999 ∧ numB n = y) : m = n := by
  have h1 := numG_num ⟨h.1, h.2.1⟩
  have h2 := numG_num ⟨k.1, k.2.1⟩
  rw [h.2.2] at h1
  rw [k.2.2, h1] at h2
  have := Option.some.inj h2
  omega
theorem IsTree.one {x y z : ByteArray} {t u : TreeD} (h : IsTree x y z t) (k : IsTree x y z u) : t = u := by
  have h1 := ptrB_inj h.ok k.ok (h.p.trans k.p.symm)
  have h2 := num_one h.d k.d
  have h3 := num_one h.m k.m
  cases t; cases u
  simp only at h1 h2 h3
  rw [h1, h2, h3]
theorem no_num {y : ByteArray} {n : Int} (h : 0 ≤ n ∧ n ≤ 999999999 ∧ numB n = y) (hg : numG y = none) : False := by
  have := numG_num ⟨h.1, h.2.1⟩
  rw [h.2.2, hg] at this
  cases this
theorem rec_size (y : ByteArray) (ys : List ByteArray) : (recB (y :: ys)).size = (decB y.size).size + 1 + y.size + (recB ys).size := by
  have h := congrArg List.length (recB_cons y ys)
  rw [← size_list, List.length_append, List.length_cons, List.length_append, ← size_list, ← size_list, ← size_list] at h
  omega
theorem rec_le {y : ByteArray} {ys : List ByteArray} {B : Nat} (h : y.size ≤ 100) (hb : (recB ys).size ≤ B) : (recB (y :: ys)).size ≤ B + 110 := by
  rw [rec_size]
  have := decB_9 (n := y.size) (by omega)
  omega
theorem RootD.all {x : RootD} (h : x.ok = true) : (1 ≤ x.fTxg ∧ x.fTxg ≤ 900) ∧ x.fMeta.fRoot.ok = true ∧ (0 ≤ x.fMeta.fDepth ∧ x.fMeta.fDepth ≤ 2) ∧ (1 ≤ x.fMeta.fMany ∧ x.fMeta.fMany ≤ 16) := by
  unfold RootD.ok at h
  cases h1 : inB x.fTxg 1 900 with
  | false => rw [h1] at h; cases h
  | true =>
    cases h2 : x.fMeta.fRoot.ok with
    | false => rw [h1, h2] at h; cases h
    | true =>
      cases h3 : inB x.fMeta.fDepth 0 2 with
      | false => rw [h1, h2, h3] at h; cases h
      | true =>
        rw [h1, h2, h3] at h
        have k1 := inB_true h1
        have k3 := inB_true h3
        have k4 := inB_true (show inB x.fMeta.fMany 1 16 = true from h)
        exact ⟨by omega, rfl, by omega, by omega⟩
theorem treeOf_any (a0 : Option Addr) (c0 : Nat) (x y z : ByteArray) (w0 : World) (hT : TabP w0) (hM : MaxP w0) (hE : ErrP w0) (hx : x.size ≤ 4294967280) (hR : Rd encS 1 w0 a0 3 [x, y, z]) : Calls Tryz.prog 144 #[.slice a0 3 c0] w0 fun e w' => (∃ t : TreeD, IsTree x y z t ∧ e = .returned (.tuple #[tV t, .bool true]) ∧ Below w0.heap.size w0 w') ∨ (∃ t : TreeD, (∀ u, IsTree x y z u → False) ∧ e = .returned (.tuple #[tV t, .bool false]) ∧ Below w0.heap.size w0 w') := by
 have HT := Bx.mk hT; have HM := Bx.mk hM; have HE := Bx.mk hE; clear hT hM hE
 obtain ⟨g0, o0, r0⟩ := hR.opn; have R0 := Bx.mk r0; clear r0 hR
 have HS := Bx.mk (St.start w0)
 refine wc_enter Tryz.func144 rfl Tryz.ntmps144 [(0, .slice a0 3 c0)] ⟨rfl, trivial⟩ rfl ?_; intro a HF
 refine wp_sr ?_
 refine wl_alloc rfl HF rfl rfl rfl (Z := [.int .i64 0, .int .i64 0, .int .i64 0, .int .i64 0, .int .i64 0, .int .i64 0, .int .i64 0]) (by kernel_rfl) rfl HS.out ?_; clear HF HS a; intro a w1 b1 HF HS; replace HS := Bx.mk HS
 refine za HF ?_;clear HF a;intro a HF
 refine wl_ne ?_
 refine wp_sr ?_
 refine zm HF ?_;clear HF a;intro a HF
 refine zy HF (yl_indexAddrR (e := 9) (i := 0) (size := 1) rfl (HF.ev rfl) (HF.ev rfl) (by kernel_rfl) rfl (by omega) (R0.out.ao 0 (by omega))) ?_;clear HF a;intro a HF
 refine zy HF (ylo (v := .string x) rfl (HF.ev rfl) (R0.out.elem1 HS.out (show ([x, y, z] : List _)[0]? = some _ from rfl) rfl)) ?_;clear HF a;intro a HF
 refine wl_call rfl HF rfl (enter_of Tryz.func134 (by kernel_rfl) rfl) (args := #[.string x]) rfl (ptrGet_any x _ (HT.out.below HS.out.bel) (HM.out.below HS.out.bel) (HE.out.below HS.out.bel) (by omega)) rfl rfl ?_
 rintro _ w2 (⟨p2, hpo2, hpt2, rfl, hb⟩ | ⟨hpn2, rfl, hb⟩)
 ·skip
  refine ⟨_, rfl, ?_⟩; replace HS := Bx.mk (HS.out.later hb);clear hb HF a;intro a HF
  refine zr 3 HF rfl ?_;clear HF a;intro a HF
  refine wl_alloc rfl HF rfl rfl rfl (Z := [.int .i64 0, .int .i64 0, .int .i64 0, .int .i64 0, .int .i64 0]) (by kernel_rfl) rfl HS.out ?_; clear HF HS a; intro a w3 b3 HF HS; replace HS := Bx.mk HS
  refine wl_storeBox rfl HF rfl rfl (HF.ev rfl) (HF.ev rfl) HS.out 0 rfl (cells_lit [.int .i64 p2.fAt, .int .i64 p2.fBirth, .int .i64 p2.fSize, .int .i64 p2.fSum, .int .i64 p2.fLevel] rfl rfl) (by kernel_rfl) ?_; clear HS; intro w4 HS; replace HS := Bx.mk HS
  try dsimp only [List.set] at HS
  refine za HF ?_;clear HF a;intro a HF
  refine wl_ne ?_
  refine wp_sr ?_
  refine zm HF ?_;clear HF a;intro a HF
  refine zy HF (yl_indexAddrR (e := 9) (i := 1) (size := 1) rfl (HF.ev rfl) (HF.ev rfl) (by kernel_rfl) rfl (by omega) (R0.out.ao 1 (by omega))) ?_;clear HF a;intro a HF
  refine zy HF (ylo (v := .string y) rfl (HF.ev rfl) (R0.out.elem1 HS.out (show ([x, y, z] : List _)[1]? = some _ from rfl) rfl)) ?_;clear HF a;intro a HF
  refine wl_call rfl HF rfl (enter_of Tryz.func143 (by kernel_rfl) rfl) (args := #[.string y]) rfl (implNumGet_any y _ (HT.out.below HS.out.bel) (HE.out.below HS.out.bel)) rfl rfl ?_
  rintro _ w5 (⟨n4, hg4, rfl, hb⟩ | ⟨hg4, rfl, hb⟩)
  ·skip
   refine ⟨_, rfl, ?_⟩; replace HS := Bx.mk (HS.out.later hb);clear hb HF a;intro a HF
   refine zr 5 HF rfl ?_;clear HF a;intro a HF
   refine wl_ne ?_
   refine wp_sr ?_
   refine zm HF ?_;clear HF a;intro a HF
   refine zy HF (yl_indexAddrR (e := 9) (i := 2) (size := 1) rfl (HF.ev rfl) (HF.ev rfl) (by kernel_rfl) rfl (by omega) (R0.out.ao 2 (by omega))) ?_;clear HF a;intro a HF
   refine zy HF (ylo (v := .string z) rfl (HF.ev rfl) (R0.out.elem1 HS.out (show ([x, y, z] : List _)[2]? = some _ from rfl) rfl)) ?_;clear HF a;intro a HF
   refine wl_call rfl HF rfl (enter_of Tryz.func143 (by kernel_rfl) rfl) (args := #[.string z]) rfl (implNumGet_any z _ (HT.out.below HS.out.bel) (HE.out.below HS.out.bel)) rfl rfl ?_
   rintro _ w6 (⟨n5, hg5, rfl, hb⟩ | ⟨hg5, rfl, hb⟩)
   ·skip
    refine ⟨_, rfl, ?_⟩; replace HS := Bx.mk (HS.out.later hb);clear hb HF a;intro a HF
    refine zr 5 HF rfl ?_;clear HF a;intro a HF
    refine wl_ne ?_
    refine wp_sr ?_
    refine zy HF (ylr (cs := [.int .i64 p2.fAt, .int .i64 p2.fBirth, .int .i64 p2.fSize, .int .i64 p2.fSum, .int .i64 p2.fLevel]) rfl (HF.ev rfl) ((HS.out.box 0 rfl).sub 0 5)) ?_;clear HF a;intro a HF
    refine zr 2 HF rfl ?_;clear HF a;intro a HF
    refine zy HF (yl_build HF rfl (ps := [(0, pV p2), (1, .int .i64 (n4 : Int)), (2, .int .i64 (n5 : Int))]) rfl (cs := #[.int .i64 p2.fAt, .int .i64 p2.fBirth, .int .i64 p2.fSize, .int .i64 p2.fSum, .int .i64 p2.fLevel, .int .i64 (n4 : Int), .int .i64 (n5 : Int)]) (by kernel_rfl)) ?_;clear HF a;intro a HF
    refine zr 7 HF rfl ?_;clear HF a;intro a HF
    refine wl_storeBox rfl HF rfl rfl (HF.ev rfl) (HF.ev rfl) HS.out 1 rfl (cells_lit [.int .i64 p2.fAt, .int .i64 p2.fBirth, .int .i64 p2.fSize, .int .i64 p2.fSum, .int .i64 p2.fLevel, .int .i64 (n4 : Int), .int .i64 (n5 : Int)] rfl rfl) (by kernel_rfl) ?_; clear HS; intro w7 HS; replace HS := Bx.mk HS
    try dsimp only [List.set] at HS
    refine za HF ?_;clear HF a;intro a HF
    refine wl_ne ?_
    refine wp_ret ?_
    refine bp_ret2 HF Tryz.results144 (HF.resBox rfl (HS.out.box 1 rfl) (by kernel_rfl)) (HF.res rfl) ?_
    exact .inl ⟨⟨p2, (n4 : Int), (n5 : Int)⟩, ⟨hpo2, hpt2, num_back hg4, num_back hg5⟩, rfl, HS.out.bel⟩
   ·skip
    refine ⟨_, rfl, ?_⟩; replace HS := Bx.mk (HS.out.later hb);clear hb HF a;intro a HF
    refine zr 5 HF rfl ?_;clear HF a;intro a HF
    refine wl_ne ?_
    refine wp_sr ?_
    refine zy HF (ylr (cs := [.int .i64 p2.fAt, .int .i64 p2.fBirth, .int .i64 p2.fSize, .int .i64 p2.fSum, .int .i64 p2.fLevel]) rfl (HF.ev rfl) ((HS.out.box 0 rfl).sub 0 5)) ?_;clear HF a;intro a HF
    refine zr 2 HF rfl ?_;clear HF a;intro a HF
    refine zy HF (yl_build HF rfl (ps := [(0, pV p2), (1, .int .i64 (n4 : Int)), (2, .int .i64 0)]) rfl (cs := #[.int .i64 p2.fAt, .int .i64 p2.fBirth, .int .i64 p2.fSize, .int .i64 p2.fSum, .int .i64 p2.fLevel, .int .i64 (n4 : Int), .int .i64 0]) (by kernel_rfl)) ?_;clear HF a;intro a HF
    refine zr 7 HF rfl ?_;clear HF a;intro a HF
    refine wl_storeBox rfl HF rfl rfl (HF.ev rfl) (HF.ev rfl) HS.out 1 rfl (cells_lit [.int .i64 p2.fAt, .int .i64 p2.fBirth, .int .i64 p2.fSize, .int .i64 p2.fSum, .int .i64 p2.fLevel, .int .i64 (n4 : Int), .int .i64 0] rfl rfl) (by kernel_rfl) ?_; clear HS; intro w8 HS; replace HS := Bx.mk HS
    try dsimp only [List.set] at HS
    refine za HF ?_;clear HF a;intro a HF
    refine wl_ne ?_
    refine wp_ret ?_
    refine bp_ret2 HF Tryz.results144 (HF.resBox rfl (HS.out.box 1 rfl) (by kernel_rfl)) (HF.res rfl) ?_
    exact .inr ⟨⟨⟨p2.fAt, p2.fBirth, p2.fSize, p2.fSum, p2.fLevel⟩, (n4 : Int), 0⟩, fun u hu => no_num hu.m hg5, rfl, HS.out.bel⟩
  ·skip
   refine ⟨_, rfl, ?_⟩; replace HS := Bx.mk (HS.out.later hb);clear hb HF a;intro a HF
   refine zr 5 HF rfl ?_;clear HF a;intro a HF
   refine wl_ne ?_
   refine wp_sr ?_
   refine zm HF ?_;clear HF a;intro a HF
   refine zy HF (yl_indexAddrR (e := 9) (i := 2) (size := 1) rfl (HF.ev rfl) (HF.ev rfl) (by kernel_rfl) rfl (by omega) (R0.out.ao 2 (by omega))) ?_;clear HF a;intro a HF
   refine zy HF (ylo (v := .string z) rfl (HF.ev rfl) (R0.out.elem1 HS.out (show ([x, y, z] : List _)[2]? = some _ from rfl) rfl)) ?_;clear HF a;intro a HF
   refine wl_call rfl HF rfl (enter_of Tryz.func143 (by kernel_rfl) rfl) (args := #[.string z]) rfl (implNumGet_any z _ (HT.out.below HS.out.bel) (HE.out.below HS.out.bel)) rfl rfl ?_
   rintro _ w9 (⟨n6, hg6, rfl, hb⟩ | ⟨hg6, rfl, hb⟩)
   ·skip
    refine ⟨_, rfl, ?_⟩; replace HS := Bx.mk (HS.out.later hb);clear hb HF a;intro a HF
    refine zr 5 HF rfl ?_;clear HF a;intro a HF
    refine wl_ne ?_
    refine wp_sr ?_
    refine zy HF (ylr (cs := [.int .i64 p2.fAt, .int .i64 p2.fBirth, .int .i64 p2.fSize, .int .i64 p2.fSum, .int .i64 p2.fLevel]) rfl (HF.ev rfl) ((HS.out.box 0 rfl).sub 0 5)) ?_;clear HF a;intro a HF
    refine zr 2 HF rfl ?_;clear HF a;intro a HF
    refine zy HF (yl_build HF rfl (ps := [(0, pV p2), (1, .int .i64 0), (2, .int .i64 (n6 : Int))]) rfl (cs := #[.int .i64 p2.fAt, .int .i64 p2.fBirth, .int .i64 p2.fSize, .int .i64 p2.fSum, .int .i64 p2.fLevel, .int .i64 0, .int .i64 (n6 : Int)]) (by kernel_rfl)) ?_;clear HF a;intro a HF
    refine zr 7 HF rfl ?_;clear HF a;intro a HF
    refine wl_storeBox rfl HF rfl rfl (HF.ev rfl) (HF.ev rfl) HS.out 1 rfl (cells_lit [.int .i64 p2.fAt, .int .i64 p2.fBirth, .int .i64 p2.fSize, .int .i64 p2.fSum, .int .i64 p2.fLevel, .int .i64 0, .int .i64 (n6 : Int)] rfl rfl) (by kernel_rfl) ?_; clear HS; intro w10 HS; replace HS := Bx.mk HS
    try dsimp only [List.set] at HS
    refine za HF ?_;clear HF a;intro a HF
    refine wl_ne ?_
    refine wp_ret ?_
    refine bp_ret2 HF Tryz.results144 (HF.resBox rfl (HS.out.box 1 rfl) (by kernel_rfl)) (HF.res rfl) ?_
    exact .inr ⟨⟨⟨p2.fAt, p2.fBirth, p2.fSize, p2.fSum, p2.fLevel⟩, 0, (n6 : Int)⟩, fun u hu => no_num hu.d hg4, rfl, HS.out.bel⟩
   ·skip
    refine ⟨_, rfl, ?_⟩; replace HS := Bx.mk (HS.out.later hb);clear hb HF a;intro a HF
    refine zr 5 HF rfl ?_;clear HF a;intro a HF
    refine wl_ne ?_
    refine wp_sr ?_
    refine zy HF (ylr (cs := [.int .i64 p2.fAt, .int .i64 p2.fBirth, .int .i64 p2.fSize, .int .i64 p2.fSum, .int .i64 p2.fLevel]) rfl (HF.ev rfl) ((HS.out.box 0 rfl).sub 0 5)) ?_;clear HF a;intro a HF
    refine zr 2 HF rfl ?_;clear HF a;intro a HF
    refine zy HF (yl_build HF rfl (ps := [(0, pV p2), (1, .int .i64 0), (2, .int .i64 0)]) rfl (cs := #[.int .i64 p2.fAt, .int .i64 p2.fBirth, .int .i64 p2.fSize, .int .i64 p2.fSum, .int .i64 p2.fLevel, .int .i64 0, .int .i64 0]) (by kernel_rfl)) ?_;clear HF a;intro a HF
    refine zr 7 HF rfl ?_;clear HF a;intro a HF
    refine wl_storeBox rfl HF rfl rfl (HF.ev rfl) (HF.ev rfl) HS.out 1 rfl (cells_lit [.int .i64 p2.fAt, .int .i64 p2.fBirth, .int .i64 p2.fSize, .int .i64 p2.fSum, .int .i64 p2.fLevel, .int .i64 0, .int .i64 0] rfl rfl) (by kernel_rfl) ?_; clear HS; intro w11 HS; replace HS := Bx.mk HS
    try dsimp only [List.set] at HS
    refine za HF ?_;clear HF a;intro a HF
    refine wl_ne ?_
    refine wp_ret ?_
    refine bp_ret2 HF Tryz.results144 (HF.resBox rfl (HS.out.box 1 rfl) (by kernel_rfl)) (HF.res rfl) ?_
    exact .inr ⟨⟨⟨p2.fAt, p2.fBirth, p2.fSize, p2.fSum, p2.fLevel⟩, 0, 0⟩, fun u hu => no_num hu.d hg4, rfl, HS.out.bel⟩
 ·skip
  refine ⟨_, rfl, ?_⟩; replace HS := Bx.mk (HS.out.later hb);clear hb HF a;intro a HF
  refine zr 3 HF rfl ?_;clear HF a;intro a HF
  refine wl_alloc rfl HF rfl rfl rfl (Z := [.int .i64 0, .int .i64 0, .int .i64 0, .int .i64 0, .int .i64 0]) (by kernel_rfl) rfl HS.out ?_; clear HF HS a; intro a w12 b7 HF HS; replace HS := Bx.mk HS
  refine wl_storeBox rfl HF rfl rfl (HF.ev rfl) (HF.ev rfl) HS.out 0 rfl (cells_lit [.int .i64 0, .int .i64 0, .int .i64 0, .int .i64 0, .int .i64 0] rfl rfl) (by kernel_rfl) ?_; clear HS; intro w13 HS; replace HS := Bx.mk HS
  try dsimp only [List.set] at HS
  refine za HF ?_;clear HF a;intro a HF
  refine wl_ne ?_
  refine wp_sr ?_
  refine zm HF ?_;clear HF a;intro a HF
  refine zy HF (yl_indexAddrR (e := 9) (i := 1) (size := 1) rfl (HF.ev rfl) (HF.ev rfl) (by kernel_rfl) rfl (by omega) (R0.out.ao 1 (by omega))) ?_;clear HF a;intro a HF
  refine zy HF (ylo (v := .string y) rfl (HF.ev rfl) (R0.out.elem1 HS.out (show ([x, y, z] : List _)[1]? = some _ from rfl) rfl)) ?_;clear HF a;intro a HF
  refine wl_call rfl HF rfl (enter_of Tryz.func143 (by kernel_rfl) rfl) (args := #[.string y]) rfl (implNumGet_any y _ (HT.out.below HS.out.bel) (HE.out.below HS.out.bel)) rfl rfl ?_
  rintro _ w14 (⟨n8, hg8, rfl, hb⟩ | ⟨hg8, rfl, hb⟩)
  ·skip
   refine ⟨_, rfl, ?_⟩; replace HS := Bx.mk (HS.out.later hb);clear hb HF a;intro a HF
   refine zr 5 HF rfl ?_;clear HF a;intro a HF
   refine wl_ne ?_
   refine wp_sr ?_
   refine zm HF ?_;clear HF a;intro a HF
   refine zy HF (yl_indexAddrR (e := 9) (i := 2) (size := 1) rfl (HF.ev rfl) (HF.ev rfl) (by kernel_rfl) rfl (by omega) (R0.out.ao 2 (by omega))) ?_;clear HF a;intro a HF
   refine zy HF (ylo (v := .string z) rfl (HF.ev rfl) (R0.out.elem1 HS.out (show ([x, y, z] : List _)[2]? = some _ from rfl) rfl)) ?_;clear HF a;intro a HF
   refine wl_call rfl HF rfl (enter_of Tryz.func143 (by kernel_rfl) rfl) (args := #[.string z]) rfl (implNumGet_any z _ (HT.out.below HS.out.bel) (HE.out.below HS.out.bel)) rfl rfl ?_
   rintro _ w15 (⟨n9, hg9, rfl, hb⟩ | ⟨hg9, rfl, hb⟩)
   ·skip
    refine ⟨_, rfl, ?_⟩; replace HS := Bx.mk (HS.out.later hb);clear hb HF a;intro a HF
    refine zr 5 HF rfl ?_;clear HF a;intro a HF
    refine wl_ne ?_
    refine wp_sr ?_
    refine zy HF (ylr (cs := [.int .i64 0, .int .i64 0, .int .i64 0, .int .i64 0, .int .i64 0]) rfl (HF.ev rfl) ((HS.out.box 0 rfl).sub 0 5)) ?_;clear HF a;intro a HF
    refine zr 2 HF rfl ?_;clear HF a;intro a HF
    refine zy HF (yl_build HF rfl (ps := [(0, .agg #[.int .i64 0, .int .i64 0, .int .i64 0, .int .i64 0, .int .i64 0]), (1, .int .i64 (n8 : Int)), (2, .int .i64 (n9 : Int))]) rfl (cs := #[.int .i64 0, .int .i64 0, .int .i64 0, .int .i64 0, .int .i64 0, .int .i64 (n8 : Int), .int .i64 (n9 : Int)]) (by kernel_rfl)) ?_;clear HF a;intro a HF
    refine zr 7 HF rfl ?_;clear HF a;intro a HF
    refine wl_storeBox rfl HF rfl rfl (HF.ev rfl) (HF.ev rfl) HS.out 1 rfl (cells_lit [.int .i64 0, .int .i64 0, .int .i64 0, .int .i64 0, .int .i64 0, .int .i64 (n8 : Int), .int .i64 (n9 : Int)] rfl rfl) (by kernel_rfl) ?_; clear HS; intro w16 HS; replace HS := Bx.mk HS
    try dsimp only [List.set] at HS
    refine za HF ?_;clear HF a;intro a HF
    refine wl_ne ?_
    refine wp_ret ?_
    refine bp_ret2 HF Tryz.results144 (HF.resBox rfl (HS.out.box 1 rfl) (by kernel_rfl)) (HF.res rfl) ?_
    exact .inr ⟨⟨⟨0, 0, 0, 0, 0⟩, (n8 : Int), (n9 : Int)⟩, fun u hu => hpn2 u.fRoot hu.ok hu.p, rfl, HS.out.bel⟩
   ·skip
    refine ⟨_, rfl, ?_⟩; replace HS := Bx.mk (HS.out.later hb);clear hb HF a;intro a HF
    refine zr 5 HF rfl ?_;clear HF a;intro a HF
    refine wl_ne ?_
    refine wp_sr ?_
    refine zy HF (ylr (cs := [.int .i64 0, .int .i64 0, .int .i64 0, .int .i64 0, .int .i64 0]) rfl (HF.ev rfl) ((HS.out.box 0 rfl).sub 0 5)) ?_;clear HF a;intro a HF
    refine zr 2 HF rfl ?_;clear HF a;intro a HF
    refine zy HF (yl_build HF rfl (ps := [(0, .agg #[.int .i64 0, .int .i64 0, .int .i64 0, .int .i64 0, .int .i64 0]), (1, .int .i64 (n8 : Int)), (2, .int .i64 0)]) rfl (cs := #[.int .i64 0, .int .i64 0, .int .i64 0, .int .i64 0, .int .i64 0, .int .i64 (n8 : Int), .int .i64 0]) (by kernel_rfl)) ?_;clear HF a;intro a HF
    refine zr 7 HF rfl ?_;clear HF a;intro a HF
    refine wl_storeBox rfl HF rfl rfl (HF.ev rfl) (HF.ev rfl) HS.out 1 rfl (cells_lit [.int .i64 0, .int .i64 0, .int .i64 0, .int .i64 0, .int .i64 0, .int .i64 (n8 : Int), .int .i64 0] rfl rfl) (by kernel_rfl) ?_; clear HS; intro w17 HS; replace HS := Bx.mk HS
    try dsimp only [List.set] at HS
    refine za HF ?_;clear HF a;intro a HF
    refine wl_ne ?_
    refine wp_ret ?_
    refine bp_ret2 HF Tryz.results144 (HF.resBox rfl (HS.out.box 1 rfl) (by kernel_rfl)) (HF.res rfl) ?_
    exact .inr ⟨⟨⟨0, 0, 0, 0, 0⟩, (n8 : Int), 0⟩, fun u hu => hpn2 u.fRoot hu.ok hu.p, rfl, HS.out.bel⟩
  ·skip
   refine ⟨_, rfl, ?_⟩; replace HS := Bx.mk (HS.out.later hb);clear hb HF a;intro a HF
   refine zr 5 HF rfl ?_;clear HF a;intro a HF
   refine wl_ne ?_
   refine wp_sr ?_
   refine zm HF ?_;clear HF a;intro a HF
   refine zy HF (yl_indexAddrR (e := 9) (i := 2) (size := 1) rfl (HF.ev rfl) (HF.ev rfl) (by kernel_rfl) rfl (by omega) (R0.out.ao 2 (by omega))) ?_;clear HF a;intro a HF
   refine zy HF (ylo (v := .string z) rfl (HF.ev rfl) (R0.out.elem1 HS.out (show ([x, y, z] : List _)[2]? = some _ from rfl) rfl)) ?_;clear HF a;intro a HF
   refine wl_call rfl HF rfl (enter_of Tryz.func143 (by kernel_rfl) rfl) (args := #[.string z]) rfl (implNumGet_any z _ (HT.out.below HS.out.bel) (HE.out.below HS.out.bel)) rfl rfl ?_
   rintro _ w18 (⟨n10, hg10, rfl, hb⟩ | ⟨hg10, rfl, hb⟩)
   ·skip
    refine ⟨_, rfl, ?_⟩; replace HS := Bx.mk (HS.out.later hb);clear hb HF a;intro a HF
    refine zr 5 HF rfl ?_;clear HF a;intro a HF
    refine wl_ne ?_
    refine wp_sr ?_
    refine zy HF (ylr (cs := [.int .i64 0, .int .i64 0, .int .i64 0, .int .i64 0, .int .i64 0]) rfl (HF.ev rfl) ((HS.out.box 0 rfl).sub 0 5)) ?_;clear HF a;intro a HF
    refine zr 2 HF rfl ?_;clear HF a;intro a HF
    refine zy HF (yl_build HF rfl (ps := [(0, .agg #[.int .i64 0, .int .i64 0, .int .i64 0, .int .i64 0, .int .i64 0]), (1, .int .i64 0), (2, .int .i64 (n10 : Int))]) rfl (cs := #[.int .i64 0, .int .i64 0, .int .i64 0, .int .i64 0, .int .i64 0, .int .i64 0, .int .i64 (n10 : Int)]) (by kernel_rfl)) ?_;clear HF a;intro a HF
    refine zr 7 HF rfl ?_;clear HF a;intro a HF
    refine wl_storeBox rfl HF rfl rfl (HF.ev rfl) (HF.ev rfl) HS.out 1 rfl (cells_lit [.int .i64 0, .int .i64 0, .int .i64 0, .int .i64 0, .int .i64 0, .int .i64 0, .int .i64 (n10 : Int)] rfl rfl) (by kernel_rfl) ?_; clear HS; intro w19 HS; replace HS := Bx.mk HS
    try dsimp only [List.set] at HS
    refine za HF ?_;clear HF a;intro a HF
    refine wl_ne ?_
    refine wp_ret ?_
    refine bp_ret2 HF Tryz.results144 (HF.resBox rfl (HS.out.box 1 rfl) (by kernel_rfl)) (HF.res rfl) ?_
    exact .inr ⟨⟨⟨0, 0, 0, 0, 0⟩, 0, (n10 : Int)⟩, fun u hu => hpn2 u.fRoot hu.ok hu.p, rfl, HS.out.bel⟩
   ·skip
    refine ⟨_, rfl, ?_⟩; replace HS := Bx.mk (HS.out.later hb);clear hb HF a;intro a HF
    refine zr 5 HF rfl ?_;clear HF a;intro a HF
    refine wl_ne ?_
    refine wp_sr ?_
    refine zy HF (ylr (cs := [.int .i64 0, .int .i64 0, .int .i64 0, .int .i64 0, .int .i64 0]) rfl (HF.ev rfl) ((HS.out.box 0 rfl).sub 0 5)) ?_;clear HF a;intro a HF
    refine zr 2 HF rfl ?_;clear HF a;intro a HF
    refine zy HF (yl_build HF rfl (ps := [(0, .agg #[.int .i64 0, .int .i64 0, .int .i64 0, .int .i64 0, .int .i64 0]), (1, .int .i64 0), (2, .int .i64 0)]) rfl (cs := #[.int .i64 0, .int .i64 0, .int .i64 0, .int .i64 0, .int .i64 0, .int .i64 0, .int .i64 0]) (by kernel_rfl)) ?_;clear HF a;intro a HF
    refine zr 7 HF rfl ?_;clear HF a;intro a HF
    refine wl_storeBox rfl HF rfl rfl (HF.ev rfl) (HF.ev rfl) HS.out 1 rfl (cells_lit [.int .i64 0, .int .i64 0, .int .i64 0, .int .i64 0, .int .i64 0, .int .i64 0, .int .i64 0] rfl rfl) (by kernel_rfl) ?_; clear HS; intro w20 HS; replace HS := Bx.mk HS
    try dsimp only [List.set] at HS
    refine za HF ?_;clear HF a;intro a HF
    refine wl_ne ?_
    refine wp_ret ?_
    refine bp_ret2 HF Tryz.results144 (HF.resBox rfl (HS.out.box 1 rfl) (by kernel_rfl)) (HF.res rfl) ?_
    exact .inr ⟨⟨⟨0, 0, 0, 0, 0⟩, 0, 0⟩, fun u hu => hpn2 u.fRoot hu.ok hu.p, rfl, HS.out.bel⟩

end Go.Proofs.YtgaodbdadncfhaaGreatDoor

/- Nodes: what they tell, plain. -/
namespace Go.Proofs.YtgaodbdadncfhaaGreatDoor
set_option linter.unusedVariables false
set_option linter.unusedSimpArgs false
set_option maxHeartbeats 1000000
set_option maxRecDepth 100000
open Go.RowKit

structure NodeD where
  fKind : Int
  fLinks : Int
  fSize : Int
  fTree : TreeD
abbrev nV (n : NodeD) : Value := .agg #[.int .i64 n.fKind, .int .i64 n.fLinks, .int .i64 n.fSize, .int .i64 n.fTree.fRoot.fAt, .int .i64 n.fTree.fRoot.fBirth, .int .i64 n.fTree.fRoot.fSize, .int .i64 n.fTree.fRoot.fSum, .int .i64 n.fTree.fRoot.fLevel, .int .i64 n.fTree.fDepth, .int .i64 n.fTree.fMany]
def eachN (kind : Int) : Int := if kind = 1 then 12 else if kind = 2 then 128 else 0
theorem eachN_none {k : Int} (h1 : k ≠ 1) (h2 : k ≠ 2) : eachN k = 0 := by unfold eachN; rw [if_neg h1, if_neg h2]
def piecesN (kind size : Int) : Int := if eachN kind = 0 ∨ ¬ (0 ≤ size ∧ size ≤ 16 * eachN kind) then -1 else (size + eachN kind - 1) / eachN kind
theorem piecesN_no {k s : Int} (h : eachN k = 0) : piecesN k s = -1 := if_pos (.inl h)
theorem piecesN_out {k s : Int} (h : ¬ (0 ≤ s ∧ s ≤ 16 * eachN k)) : piecesN k s = -1 := if_pos (.inr h)
theorem piecesN_in {k s : Int} (h : eachN k ≠ 0) (h1 : 0 ≤ s) (h2 : s ≤ 16 * eachN k) : piecesN k s = (s + eachN k - 1) / eachN k := if_neg fun e => e.elim h fun e => e ⟨h1, h2⟩
/-- A node that is formed. -/
structure NodeOk (n : NodeD) : Prop where
  many : 0 ≤ piecesN n.fKind n.fSize
  links : 1 ≤ n.fLinks ∧ n.fLinks ≤ if n.fKind = 2 then 1 else 9
  tmany : n.fTree.fMany = piecesN n.fKind n.fSize
  depth : n.fTree.fDepth = ((depthN (piecesN n.fKind n.fSize) : Nat) : Int)
  root : n.fTree.fRoot.ok = true
  level : n.fTree.fRoot.hole = true ∨ n.fTree.fRoot.fLevel = n.fTree.fDepth
instance (n : NodeD) : Decidable (NodeOk n) := decidable_of_iff (0 ≤ piecesN n.fKind n.fSize ∧ (1 ≤ n.fLinks ∧ n.fLinks ≤ if n.fKind = 2 then 1 else 9) ∧ n.fTree.fMany = piecesN n.fKind n.fSize ∧ n.fTree.fDepth = ((depthN (piecesN n.fKind n.fSize) : Nat) : Int) ∧ n.fTree.fRoot.ok = true ∧ (n.fTree.fRoot.hole = true ∨ n.fTree.fRoot.fLevel = n.fTree.fDepth)) ⟨fun ⟨a, b, c, d, e, f⟩ => ⟨a, b, c, d, e, f⟩, fun ⟨a, b, c, d, e, f⟩ => ⟨a, b, c, d, e, f⟩⟩
def NodeD.ok (n : NodeD) : Bool := decide (NodeOk n)
theorem NodeD.ok_yes {n : NodeD} (h : NodeOk n) : n.ok = true := decide_eq_true h
theorem NodeD.ok_no {n : NodeD} (h : ¬ NodeOk n) : n.ok = false := decide_eq_false h
theorem NodeD.ok_is {n : NodeD} (h : n.ok = true) : NodeOk n := of_decide_eq_true h
structure NodeS (n : NodeD) : Prop where
  kind : n.fKind = 1 ∨ n.fKind = 2
  links : 1 ≤ n.fLinks ∧ n.fLinks ≤ 9
  size : 0 ≤ n.fSize ∧ n.fSize ≤ 16 * eachN n.fKind
  is : piecesN n.fKind n.fSize = (n.fSize + eachN n.fKind - 1) / eachN n.fKind
  many : 0 ≤ n.fTree.fMany ∧ n.fTree.fMany ≤ 16
  depth : 0 ≤ n.fTree.fDepth ∧ n.fTree.fDepth ≤ 2
theorem NodeOk.small {n : NodeD} (h : NodeOk n) : NodeS n := by
  have hk : n.fKind = 1 ∨ n.fKind = 2 := by
    by_cases h1 : n.fKind = 1
    · exact .inl h1
    · by_cases h2 : n.fKind = 2
      · exact .inr h2
      · have := h.many
        rw [piecesN_no (eachN_none h1 h2)] at this
        omega
  have he : 12 ≤ eachN n.fKind ∧ eachN n.fKind ≤ 128 := by rcases hk with e | e <;> rw [e] <;> decide
  have hs : 0 ≤ n.fSize ∧ n.fSize ≤ 16 * eachN n.fKind := by
    by_cases hs : 0 ≤ n.fSize ∧ n.fSize ≤ 16 * eachN n.fKind
    · exact hs
    · have := h.many
      rw [piecesN_out hs] at this
      omega
  have hp := piecesN_in (k := n.fKind) (by omega) hs.1 hs.2
  have hl := h.links
  have hm : piecesN n.fKind n.fSize ≤ 16 := by
    rw [hp]
    have : (n.fSize + eachN n.fKind - 1) / eachN n.fKind < 17 := Int.ediv_lt_of_lt_mul (by omega) (by omega)
    omega
  have hd := depthN_le (piecesN n.fKind n.fSize)
  have h1 := h.many
  have h2 := h.tmany
  have h3 := h.depth
  refine ⟨hk, ⟨hl.1, ?_⟩, hs, hp, by omega, by omega⟩
  have := hl.2
  split at this <;> omega
def endB : ByteArray := ⟨#[101, 110, 100]⟩
def nodeL (n : NodeD) : List ByteArray := [numB n.fKind, numB n.fLinks, numB n.fSize, ptrB n.fTree.fRoot, numB n.fTree.fDepth, numB n.fTree.fMany, endB]
def nodeB (n : NodeD) : ByteArray := bif n.ok then (fieldsPut (nodeL n)).1 else ByteArray.empty
theorem nodeB_no {n : NodeD} (h : n.ok = false) : nodeB n = ByteArray.empty := by unfold nodeB; rw [h]; rfl
theorem nodeB_yes {n : NodeD} (h : n.ok = true) : nodeB n = (fieldsPut (nodeL n)).1 := by unfold nodeB; rw [h]; rfl
theorem nodeL_le (n : NodeD) : (recB (nodeL n)).size ≤ 1000 := by
  refine Nat.le_trans (rec_le (Nat.le_trans (numB_le _) (by decide)) (rec_le (Nat.le_trans (numB_le _) (by decide)) (rec_le (Nat.le_trans (numB_le _) (by decide)) (rec_le (Nat.le_trans (ptrB_le _) (by decide)) (rec_le (Nat.le_trans (numB_le _) (by decide)) (rec_le (Nat.le_trans (numB_le _) (by decide)) (rec_le (y := endB) (by decide) (Nat.le_refl (recB []).size)))))))) ?_
  have h0 : (recB []).size = 0 := rfl
  omega
theorem node_rec {n : NodeD} (h : n.ok = true) : IsRec (nodeB n) (nodeL n) := by
  rw [nodeB_yes h, fieldsPut_yes (by simp only [nodeL, List.length_cons, List.length_nil]; omega) (Nat.le_trans (nodeL_le n) (by decide))]
  exact ⟨rfl, by simp only [nodeL, List.length_cons, List.length_nil]; omega⟩
theorem nodeB_size (n : NodeD) : (nodeB n).size ≤ 1000 := by
  cases h : n.ok with
  | false => rw [nodeB_no h]; exact Nat.zero_le _
  | true => rw [← (node_rec h).is]; exact nodeL_le n
theorem nodeB_inj {m n : NodeD} (hm : m.ok = true) (hn : n.ok = true) (h : nodeB m = nodeB n) : m = n := by
  have h1 := node_rec hm
  have h2 := node_rec hn
  rw [h] at h1
  have e := h1.one h2
  simp only [nodeL, List.cons.injEq, and_true] at e
  obtain ⟨e1, e2, e3, e4, e5, e6⟩ := e
  have a := (NodeD.ok_is hm)
  have b := (NodeD.ok_is hn)
  have sa := a.small
  have sb := b.small
  have ea : eachN m.fKind ≤ 128 := by rcases sa.kind with e | e <;> rw [e] <;> decide
  have eb : eachN n.fKind ≤ 128 := by rcases sb.kind with e | e <;> rw [e] <;> decide
  have k1 := sa.links; have k2 := sa.size; have k3 := sa.many; have k4 := sa.depth; have k5 := sa.kind
  have l1 := sb.links; have l2 := sb.size; have l3 := sb.many; have l4 := sb.depth; have l5 := sb.kind
  have j1 : m.fKind = n.fKind := num_one (y := numB n.fKind) ⟨by omega, by omega, e1⟩ ⟨by omega, by omega, rfl⟩
  have j2 : m.fLinks = n.fLinks := num_one (y := numB n.fLinks) ⟨by omega, by omega, e2⟩ ⟨by omega, by omega, rfl⟩
  have j3 : m.fSize = n.fSize := num_one (y := numB n.fSize) ⟨by omega, by omega, e3⟩ ⟨by omega, by omega, rfl⟩
  have j4 := ptrB_inj a.root b.root e4
  have j5 : m.fTree.fDepth = n.fTree.fDepth := num_one (y := numB n.fTree.fDepth) ⟨by omega, by omega, e5⟩ ⟨by omega, by omega, rfl⟩
  have j6 : m.fTree.fMany = n.fTree.fMany := num_one (y := numB n.fTree.fMany) ⟨by omega, by omega, e6⟩ ⟨by omega, by omega, rfl⟩
  obtain ⟨_, _, _, ⟨_, _, _⟩⟩ := m
  obtain ⟨_, _, _, ⟨_, _, _⟩⟩ := n
  simp only at j1 j2 j3 j4 j5 j6
  rw [j1, j2, j3, j4, j5, j6]
open Classical in
/-- The node that a text is the text of. -/
noncomputable def nodeG (s : ByteArray) : Option NodeD := if h : ∃ n : NodeD, n.ok = true ∧ nodeB n = s then some h.choose else none
theorem nodeG_yes {s : ByteArray} {n : NodeD} (hn : n.ok = true) (h : nodeB n = s) : nodeG s = some n := by
  have he : ∃ n : NodeD, n.ok = true ∧ nodeB n = s := ⟨n, hn, h⟩
  unfold nodeG
  rw [dif_pos he]
  have hc := he.choose_spec
  rw [nodeB_inj hc.1 hn (hc.2.trans h.symm)]
theorem nodeG_no {s : ByteArray} (h : ∀ n : NodeD, n.ok = true → nodeB n = s → False) : nodeG s = none := by
  unfold nodeG
  rw [dif_neg fun ⟨n, hn, hs⟩ => h n hn hs]
theorem nodeG_is {s : ByteArray} {n : NodeD} (h : nodeG s = some n) : n.ok = true ∧ nodeB n = s := by
  unfold nodeG at h
  split at h
  · next he => rw [← Option.some.inj h]; exact he.choose_spec
  · cases h
/-- What seven fields tell. -/
theorem node_five {n : NodeD} (h : n.ok = true) : NodeS n ∧ numG (numB n.fKind) = some n.fKind.toNat ∧ numG (numB n.fLinks) = some n.fLinks.toNat ∧ numG (numB n.fSize) = some n.fSize.toNat ∧ numG (numB n.fTree.fDepth) = some n.fTree.fDepth.toNat ∧ numG (numB n.fTree.fMany) = some n.fTree.fMany.toNat := by
  have sa := (NodeD.ok_is h).small
  have ea : eachN n.fKind ≤ 128 := by rcases sa.kind with e | e <;> rw [e] <;> decide
  have k1 := sa.links; have k2 := sa.size; have k3 := sa.many; have k4 := sa.depth; have k5 := sa.kind
  exact ⟨sa, numG_num (by omega), numG_num (by omega), numG_num (by omega), numG_num (by omega), numG_num (by omega)⟩
end Go.Proofs.YtgaodbdadncfhaaGreatDoor

/- Rows written in place: a reference given up. -/
namespace Go.Proofs.YtgaodbdadncfhaaGreatDoor
set_option linter.unusedVariables false
set_option linter.unusedSimpArgs false
set_option maxHeartbeats 1000000
set_option maxRecDepth 100000
open Go.RowKit

/-! ### What the functions reckon -/
def SpaceD.give (s : SpaceD) (a : Nat) : SpaceD := { fRefs := s.fRefs.set a (s.fRefs.getD a 0 - 1), fLast := if s.fRefs.getD a 0 - 1 = 0 then s.fLast.set a 0 else s.fLast }
def StoreD.drop (st : StoreD) (a : Nat) : StoreD := { st with fSpace := st.fSpace.give a, fRows := if st.fSpace.fRefs.getD a 0 - 1 = 0 then st.fRows.set a ByteArray.empty else st.fRows }
def StoreD.drops (st : StoreD) (ps : List PtrD) : StoreD := ps.foldl (fun st p => st.drop p.fAt.toNat) st
def StoreD.next (st : StoreD) : StoreD := { st.drops st.fGone with fGone := [], fTxg := st.fTxg + 1 }

end Go.Proofs.YtgaodbdadncfhaaGreatDoor
