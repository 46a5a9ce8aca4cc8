/- A part of the proof in YtnikdicehddehaaGreatDoorSoLZ30. -/
import Derived.ArgAppend
import Derived.BigQuiet
import Derived.BigRegion
import Derived.Deep.AppendLies
import Derived.Deep.MidRow
import Derived.Deep.Quiet
import Derived.Deep.QuietTactic
import Derived.Deep.RegionHeld3
import Derived.Deep.RegionWith
import Derived.IntWalk
import Derived.Laws.BytesArg
import Derived.Laws.IdiomRangeMap
import Derived.Laws.RangeAny
import Derived.Lib.AppendIntMem
import Derived.Lib.Atoi
import Derived.Lib.Hide
import Derived.Lib.IndexBytes
import Derived.Lib.IndexLaws
import Derived.Lib.ItoaNum
import Derived.Lib.Join
import Derived.Lib.LazyBuf
import Derived.Lib.SlBytesConst
import Derived.Lib.Split
import Derived.Lib.SplitLaws
import Derived.LoopIn
import Derived.LoopN
import Derived.LoopNIn
import Derived.Orders
import Derived.OrdersHeld
import Derived.OwnWalkIn
import Derived.RangeFuncLeaves
import Derived.RangeFuncNested
import Derived.Shelf.Abstract
import Derived.Shelf.GgClosure.StringsIndexFunc
import Derived.Shelf.Small.Wraps
import Derived.Shelf.Strconv.Atoi
import Derived.Shelf.Strconv.AtoiErr
import Derived.Shelf.Strconv.Itoa3
import Derived.Shelf.Strings.BuilderF
import Derived.Shelf.Strings.BuilderK
import Derived.Shelf.Strings.FuncGrows
import Derived.Shelf.Strings.OnBuilder
import Derived.Shelf.Strings.Split
import Derived.Shelf.Strings.SplitShaped
import Derived.Shelf.Vars
import Derived.Still
import Derived.StillTail
import Derived.StillTailTactics
import Derived.StringKeys
import Derived.TacticsInMore
import Derived.Test.YtnikdicehddehaaGreatDoorRows
import Derived.WalkKit
import Derived.WalkLawsBesides
import Derived.WalkSpells
import Derived.WideKeyMaps2
import Derived.Test.YtnikdicehddehaaGreatDoorSoLZ19
/- Atoi: laid at this dump. -/
namespace Go.Proofs.YtnikdicehddehaaGreatDoor
set_option linter.unusedVariables false
set_option linter.unusedSimpArgs false
set_option maxHeartbeats 1000000
set_option maxRecDepth 100000
open Go.Shelf

def layA_ren : Go.Shelf.Ren := ⟨fun | 129 => 93 | 171 => 31 | 172 => 36 | 205 => 85 | 243 => 46 | 244 => 51 | 245 => 52 | 246 => 60 | 247 => 64 | 279 => 65 | 280 => 66 | 281 => 67 | 282 => 68 | 283 => 75 | 284 => 76 | 285 => 77 | 286 => 78 | 287 => 83 | 316 => 84 | 317 => 92 | 318 => 94 | 319 => 95 | 320 => 96 | 321 => 99 | 322 => 100 | 337 => 105 | 338 => 106 | n => n, fun | 0 => 0 | 2 => 2 | 3 => 3 | 4 => 4 | 5 => 5 | 9 => 9 | 20 => 20 | 21 => 21 | 37 => 22 | 46 => 81 | 51 => 112 | 53 => 93 | 75 => 58 | 76 => 59 | 80 => 125 | 85 => 86 | 127 => 116 | 143 => 117 | 145 => 119 | 167 => 85 | 168 => 88 | 171 => 92 | 173 => 96 | 175 => 101 | 210 => 105 | 212 => 111 | 213 => 113 | 232 => 133 | 233 => 134 | n => n, fun | 15 => 2 | 16 => 3 | 17 => 4 | 18 => 7 | 19 => 8 | n => n⟩
theorem layAtoi : Go.Proofs.Lays.n172 Tryz.prog layA_ren := {
  mixed := by kernel_rfl
  f129 := Tryz.func93.trans (congrArg some (by kernel_rfl))
  f171 := Tryz.func31.trans (congrArg some (by kernel_rfl))
  f172 := Tryz.func36.trans (congrArg some (by kernel_rfl))
  f205 := Tryz.func85.trans (congrArg some (by kernel_rfl))
  f243 := Tryz.func46.trans (congrArg some (by kernel_rfl))
  f244 := Tryz.func51.trans (congrArg some (by kernel_rfl))
  f245 := Tryz.func52.trans (congrArg some (by kernel_rfl))
  f246 := Tryz.func60.trans (congrArg some (by kernel_rfl))
  f247 := Tryz.func64.trans (congrArg some (by kernel_rfl))
  f279 := Tryz.func65.trans (congrArg some (by kernel_rfl))
  f280 := Tryz.func66.trans (congrArg some (by kernel_rfl))
  f281 := Tryz.func67.trans (congrArg some (by kernel_rfl))
  f282 := Tryz.func68.trans (congrArg some (by kernel_rfl))
  f283 := Tryz.func75.trans (congrArg some (by kernel_rfl))
  f284 := Tryz.func76.trans (congrArg some (by kernel_rfl))
  f285 := Tryz.func77.trans (congrArg some (by kernel_rfl))
  f286 := Tryz.func78.trans (congrArg some (by kernel_rfl))
  f287 := Tryz.func83.trans (congrArg some (by kernel_rfl))
  f316 := Tryz.func84.trans (congrArg some (by kernel_rfl))
  f317 := Tryz.func92.trans (congrArg some (by kernel_rfl))
  f318 := Tryz.func94.trans (congrArg some (by kernel_rfl))
  f319 := Tryz.func95.trans (congrArg some (by kernel_rfl))
  f320 := Tryz.func96.trans (congrArg some (by kernel_rfl))
  f321 := Tryz.func99.trans (congrArg some (by kernel_rfl))
  f322 := Tryz.func100.trans (congrArg some (by kernel_rfl))
  f337 := Tryz.func105.trans (congrArg some (by kernel_rfl))
  f338 := Tryz.func106.trans (congrArg some (by kernel_rfl))
  t0 := Tryz.underlying0
  a0 := Tryz.isAgg0
  z0 := Tryz.sizeOf0
  v0 := Tryz.zeroValue0
  t2 := Tryz.underlying2
  a2 := Tryz.isAgg2
  z2 := Tryz.sizeOf2
  v2 := Tryz.zeroValue2
  t3 := Tryz.underlying3
  a3 := Tryz.isAgg3
  z3 := Tryz.sizeOf3
  v3 := Tryz.zeroValue3
  t4 := Tryz.underlying4
  a4 := Tryz.isAgg4
  z4 := Tryz.sizeOf4
  v4 := Tryz.zeroValue4
  t5 := Tryz.underlying5
  a5 := Tryz.isAgg5
  z5 := Tryz.sizeOf5
  v5 := Tryz.zeroValue5
  t9 := Tryz.underlying9
  a9 := Tryz.isAgg9
  z9 := Tryz.sizeOf9
  v9 := Tryz.zeroValue9
  t20 := Tryz.underlying20
  a20 := Tryz.isAgg20
  z20 := Tryz.sizeOf20
  v20 := Tryz.zeroValue20
  t21 := Tryz.underlying21
  a21 := Tryz.isAgg21
  z21 := Tryz.sizeOf21
  v21 := Tryz.zeroValue21
  t37 := Tryz.underlying22
  a37 := Tryz.isAgg22
  z37 := Tryz.sizeOf22
  v37 := Tryz.zeroValue22
  t46 := Tryz.underlying81
  a46 := Tryz.isAgg81
  z46 := Tryz.sizeOf81
  v46 := Tryz.zeroValue81
  t51 := Tryz.underlying112
  a51 := Tryz.isAgg112
  z51 := Tryz.sizeOf112
  v51 := Tryz.zeroValue112
  t53 := Tryz.underlying93
  a53 := Tryz.isAgg93
  z53 := Tryz.sizeOf93
  v53 := Tryz.zeroValue93
  t75 := Tryz.underlying58
  a75 := Tryz.isAgg58
  z75 := Tryz.sizeOf58
  v75 := Tryz.zeroValue58
  t76 := Tryz.underlying59
  a76 := Tryz.isAgg59
  z76 := Tryz.sizeOf59
  v76 := Tryz.zeroValue59
  t85 := Tryz.underlying86
  a85 := Tryz.isAgg86
  z85 := Tryz.sizeOf86
  v85 := Tryz.zeroValue86
  t127 := Tryz.underlying116
  a127 := Tryz.isAgg116
  z127 := Tryz.sizeOf116
  v127 := Tryz.zeroValue116
  t143 := Tryz.underlying117
  a143 := Tryz.isAgg117
  z143 := Tryz.sizeOf117
  v143 := Tryz.zeroValue117
  t145 := Tryz.underlying119
  a145 := Tryz.isAgg119
  z145 := Tryz.sizeOf119
  v145 := Tryz.zeroValue119
  t167 := Tryz.underlying85
  a167 := Tryz.isAgg85
  z167 := Tryz.sizeOf85
  v167 := Tryz.zeroValue85
  t168 := Tryz.underlying88
  a168 := Tryz.isAgg88
  z168 := Tryz.sizeOf88
  v168 := Tryz.zeroValue88
  t171 := Tryz.underlying92
  a171 := Tryz.isAgg92
  z171 := Tryz.sizeOf92
  v171 := Tryz.zeroValue92
  t173 := Tryz.underlying96
  a173 := Tryz.isAgg96
  z173 := Tryz.sizeOf96
  v173 := Tryz.zeroValue96
  t175 := Tryz.underlying101
  a175 := Tryz.isAgg101
  z175 := Tryz.sizeOf101
  v175 := Tryz.zeroValue101
  t210 := Tryz.underlying105
  a210 := Tryz.isAgg105
  z210 := Tryz.sizeOf105
  v210 := Tryz.zeroValue105
  t212 := Tryz.underlying111
  a212 := Tryz.isAgg111
  z212 := Tryz.sizeOf111
  v212 := Tryz.zeroValue111
  t213 := Tryz.underlying113
  a213 := Tryz.isAgg113
  z213 := Tryz.sizeOf113
  t232 := Tryz.underlying133
  a232 := Tryz.isAgg133
  z232 := Tryz.sizeOf133
  v232 := Tryz.zeroValue133
  t233 := Tryz.underlying134
  a233 := Tryz.isAgg134
  z233 := Tryz.sizeOf134
  v233 := Tryz.zeroValue134
  g15 := by kernel_rfl
  g16 := by kernel_rfl
  g17 := by kernel_rfl
  g18 := by kernel_rfl
  g19 := by kernel_rfl }
theorem layAtoiC : Go.Proofs.LaysC.n172 Tryz.prog layA_ren := {
  mixed := by kernel_rfl
  f129 := Tryz.func93.trans (congrArg some (by kernel_rfl))
  f171 := Tryz.func31.trans (congrArg some (by kernel_rfl))
  f172 := Tryz.func36.trans (congrArg some (by kernel_rfl))
  f205 := Tryz.func85.trans (congrArg some (by kernel_rfl))
  f243 := Tryz.func46.trans (congrArg some (by kernel_rfl))
  f244 := Tryz.func51.trans (congrArg some (by kernel_rfl))
  f245 := Tryz.func52.trans (congrArg some (by kernel_rfl))
  f246 := Tryz.func60.trans (congrArg some (by kernel_rfl))
  f247 := Tryz.func64.trans (congrArg some (by kernel_rfl))
  f279 := Tryz.func65.trans (congrArg some (by kernel_rfl))
  f280 := Tryz.func66.trans (congrArg some (by kernel_rfl))
  f281 := Tryz.func67.trans (congrArg some (by kernel_rfl))
  f282 := Tryz.func68.trans (congrArg some (by kernel_rfl))
  f283 := Tryz.func75.trans (congrArg some (by kernel_rfl))
  f284 := Tryz.func76.trans (congrArg some (by kernel_rfl))
  f285 := Tryz.func77.trans (congrArg some (by kernel_rfl))
  f286 := Tryz.func78.trans (congrArg some (by kernel_rfl))
  f287 := Tryz.func83.trans (congrArg some (by kernel_rfl))
  f316 := Tryz.func84.trans (congrArg some (by kernel_rfl))
  f317 := Tryz.func92.trans (congrArg some (by kernel_rfl))
  f318 := Tryz.func94.trans (congrArg some (by kernel_rfl))
  f319 := Tryz.func95.trans (congrArg some (by kernel_rfl))
  f320 := Tryz.func96.trans (congrArg some (by kernel_rfl))
  f321 := Tryz.func99.trans (congrArg some (by kernel_rfl))
  f322 := Tryz.func100.trans (congrArg some (by kernel_rfl))
  f337 := Tryz.func105.trans (congrArg some (by kernel_rfl))
  f338 := Tryz.func106.trans (congrArg some (by kernel_rfl))
  t0 := Tryz.underlying0
  a0 := Tryz.isAgg0
  z0 := Tryz.sizeOf0
  v0 := Tryz.zeroValue0
  t2 := Tryz.underlying2
  a2 := Tryz.isAgg2
  z2 := Tryz.sizeOf2
  v2 := Tryz.zeroValue2
  t3 := Tryz.underlying3
  a3 := Tryz.isAgg3
  z3 := Tryz.sizeOf3
  v3 := Tryz.zeroValue3
  t4 := Tryz.underlying4
  a4 := Tryz.isAgg4
  z4 := Tryz.sizeOf4
  v4 := Tryz.zeroValue4
  t5 := Tryz.underlying5
  a5 := Tryz.isAgg5
  z5 := Tryz.sizeOf5
  v5 := Tryz.zeroValue5
  t9 := Tryz.underlying9
  a9 := Tryz.isAgg9
  z9 := Tryz.sizeOf9
  v9 := Tryz.zeroValue9
  t20 := Tryz.underlying20
  a20 := Tryz.isAgg20
  z20 := Tryz.sizeOf20
  v20 := Tryz.zeroValue20
  t21 := Tryz.underlying21
  a21 := Tryz.isAgg21
  z21 := Tryz.sizeOf21
  v21 := Tryz.zeroValue21
  t37 := Tryz.underlying22
  a37 := Tryz.isAgg22
  z37 := Tryz.sizeOf22
  v37 := Tryz.zeroValue22
  t46 := Tryz.underlying81
  a46 := Tryz.isAgg81
  z46 := Tryz.sizeOf81
  v46 := Tryz.zeroValue81
  t51 := Tryz.underlying112
  a51 := Tryz.isAgg112
  z51 := Tryz.sizeOf112
  v51 := Tryz.zeroValue112
  t53 := Tryz.underlying93
  a53 := Tryz.isAgg93
  z53 := Tryz.sizeOf93
  v53 := Tryz.zeroValue93
  t75 := Tryz.underlying58
  a75 := Tryz.isAgg58
  z75 := Tryz.sizeOf58
  v75 := Tryz.zeroValue58
  t76 := Tryz.underlying59
  a76 := Tryz.isAgg59
  z76 := Tryz.sizeOf59
  v76 := Tryz.zeroValue59
  t85 := Tryz.underlying86
  a85 := Tryz.isAgg86
  z85 := Tryz.sizeOf86
  v85 := Tryz.zeroValue86
  t127 := Tryz.underlying116
  a127 := Tryz.isAgg116
  z127 := Tryz.sizeOf116
  v127 := Tryz.zeroValue116
  t143 := Tryz.underlying117
  a143 := Tryz.isAgg117
  z143 := Tryz.sizeOf117
  v143 := Tryz.zeroValue117
  t145 := Tryz.underlying119
  a145 := Tryz.isAgg119
  z145 := Tryz.sizeOf119
  v145 := Tryz.zeroValue119
  t167 := Tryz.underlying85
  a167 := Tryz.isAgg85
  z167 := Tryz.sizeOf85
  v167 := Tryz.zeroValue85
  t168 := Tryz.underlying88
  a168 := Tryz.isAgg88
  z168 := Tryz.sizeOf88
  v168 := Tryz.zeroValue88
  t171 := Tryz.underlying92
  a171 := Tryz.isAgg92
  z171 := Tryz.sizeOf92
  v171 := Tryz.zeroValue92
  t173 := Tryz.underlying96
  a173 := Tryz.isAgg96
  z173 := Tryz.sizeOf96
  v173 := Tryz.zeroValue96
  t175 := Tryz.underlying101
  a175 := Tryz.isAgg101
  z175 := Tryz.sizeOf101
  v175 := Tryz.zeroValue101
  t210 := Tryz.underlying105
  a210 := Tryz.isAgg105
  z210 := Tryz.sizeOf105
  v210 := Tryz.zeroValue105
  t212 := Tryz.underlying111
  a212 := Tryz.isAgg111
  z212 := Tryz.sizeOf111
  v212 := Tryz.zeroValue111
  t213 := Tryz.underlying113
  a213 := Tryz.isAgg113
  z213 := Tryz.sizeOf113
  t232 := Tryz.underlying133
  a232 := Tryz.isAgg133
  z232 := Tryz.sizeOf133
  v232 := Tryz.zeroValue133
  t233 := Tryz.underlying134
  a233 := Tryz.isAgg134
  z233 := Tryz.sizeOf134
  v233 := Tryz.zeroValue134
  g15 := by kernel_rfl
  g16 := by kernel_rfl
  g17 := by kernel_rfl
  g18 := by kernel_rfl
  g19 := by kernel_rfl
  t80 := Tryz.underlying125
  a80 := Tryz.isAgg125
  z80 := Tryz.sizeOf125
  v80 := Tryz.zeroValue125
  i0 := by kernel_rfl
  i2 := by kernel_rfl
  i3 := by kernel_rfl
  i4 := by kernel_rfl
  i5 := by kernel_rfl
  i9 := by kernel_rfl
  i20 := by kernel_rfl
  i21 := by kernel_rfl
  i37 := by kernel_rfl
  i46 := by kernel_rfl
  i51 := by kernel_rfl
  i53 := by kernel_rfl
  i75 := by kernel_rfl
  i76 := by kernel_rfl
  i80 := by kernel_rfl
  i85 := by kernel_rfl
  i127 := by kernel_rfl
  i143 := by kernel_rfl
  i145 := by kernel_rfl
  i167 := by kernel_rfl
  i168 := by kernel_rfl
  i171 := by kernel_rfl
  i173 := by kernel_rfl
  i175 := by kernel_rfl
  i210 := by kernel_rfl
  i212 := by kernel_rfl
  i232 := by kernel_rfl
  i233 := by kernel_rfl
  m15 := by kernel_rfl
  m16 := by kernel_rfl
  m17 := by kernel_rfl
  m18 := by kernel_rfl
  m19 := by kernel_rfl
  c0 := by kernel_rfl
  c2 := by kernel_rfl
  c3 := by kernel_rfl
  c4 := by kernel_rfl
  c5 := by kernel_rfl
  c9 := by kernel_rfl
  c20 := by kernel_rfl
  c21 := by kernel_rfl
  c37 := by kernel_rfl
  c46 := by kernel_rfl
  c51 := by kernel_rfl
  c53 := by kernel_rfl
  c75 := by kernel_rfl
  c76 := by kernel_rfl
  c80 := by kernel_rfl
  c85 := by kernel_rfl
  c127 := by kernel_rfl
  c143 := by kernel_rfl
  c145 := by kernel_rfl
  c167 := by kernel_rfl
  c168 := by kernel_rfl
  c171 := by kernel_rfl
  c173 := by kernel_rfl
  c175 := by kernel_rfl
  c210 := by kernel_rfl
  c212 := by kernel_rfl
  c213 := by kernel_rfl
  c232 := by kernel_rfl
  c233 := by kernel_rfl }
end Go.Proofs.YtnikdicehddehaaGreatDoor

/- Drawing numbers and texts. -/
namespace Go.Proofs.YtnikdicehddehaaGreatDoor
set_option linter.unusedVariables false
set_option linter.unusedSimpArgs false
set_option maxHeartbeats 1000000
set_option maxRecDepth 100000
open Go.RowKit

theorem u8_b (b : UInt8) : 0 ≤ (b.toNat : Int) ∧ (b.toNat : Int) ≤ 255 := by have := b.toNat_lt; omega

theorem pick_any (w0 w : World) (rb : Nat) (ab : Option Addr) (n cb : Nat) (bs : List UInt8) (hn : n ≤ 2000) (hR : Rd encB 1 w0 ab n bs) (B : Nat) (hB : B ≤ 1000000) (m : Int) (hm : m ≤ 1000000) (F : List Asr) (hS : St w0 (rdA rb ab n cb B :: F) w) : Calls Tryz.prog 26 #[.pointer (some ⟨rb, 0, none⟩), .int .i64 m] w fun e w' => ∃ v : Int, e = .returned (.int .i64 v) ∧ 0 ≤ v ∧ (v < m ∨ v = 0) ∧ St w0 (rdA rb ab n cb (B + 1) :: F) w' := by
 obtain ⟨p, hpB, h0⟩ := hS.rdOpen
 have HS := Bx.mk h0; clear h0 hS
 have hbl : bs.length = n := hR.len
 obtain ⟨g, off, r0⟩ := hR.opn; have RB := Bx.mk r0; clear r0 hR
 refine wc_enter Tryz.func26 rfl Tryz.ntmps26 [(0, .pointer (some ⟨rb, 0, none⟩)), (1, .int .i64 m)] ⟨rfl, rfl, trivial⟩ rfl ?_; intro a HF
 refine wp_sr ?_
 refine wl_as HF rfl rfl rfl rfl rfl ?_; clear HF a; intro a HF
 refine wl_ne ?_
 refine wp_sr ?_
 refine wl_mv HF rfl rfl rfl rfl rfl ?_; clear HF a; intro a HF
 refine wl_mv HF rfl rfl rfl rfl rfl ?_; clear HF a; intro a HF
 refine wl_y rfl HF rfl rfl (yl_nilCheck rfl (HF.ev rfl)) ?_; clear HF a; intro a HF
 refine wl_y rfl HF rfl rfl (yl_fieldAddr (j := 1) rfl (HF.ev rfl) (by kernel_rfl)) ?_; clear HF a; intro a HF
 refine wl_y rfl HF rfl rfl (yl_load (v := .int .i64 (p : Int)) rfl (HF.ev rfl) (((HS.out.box 0 rfl).cell 1).trans rfl) (by kernel_rfl)) ?_; clear HF a; intro a HF
 refine wl_y rfl HF rfl rfl (yl_addI rfl (HF.ev rfl) (HF.ev rfl) (i64w (by omega))) ?_; clear HF a; intro a HF
 refine wl_y rfl HF rfl rfl (yl_nilCheck rfl (HF.ev rfl)) ?_; clear HF a; intro a HF
 refine wl_y rfl HF rfl rfl (yl_fieldAddr (j := 1) rfl (HF.ev rfl) (by kernel_rfl)) ?_; clear HF a; intro a HF
 refine wl_storeF rfl rfl rfl (HF.ev rfl) (HF.ev rfl) (by kernel_rfl) HS.out 0 rfl rfl rfl ?_; clear HS; intro w1 HS; replace HS := Bx.mk HS
 have HS : Bx (St w0 (boxA rb 2 49 (.agg #[.slice ab n cb, .int .i64 ((p : Int) + 1)]) :: F) _) := HS
 refine wl_ne ?_
 refine wp_seq ?_
 refine wp_sr ?_
 refine wl_mv HF rfl rfl rfl rfl rfl ?_; clear HF a; intro a HF
 refine wl_y rfl HF rfl rfl (yl_lssI rfl (HF.ev rfl) (HF.ev rfl)) ?_; clear HF a; intro a HF
 refine wl_mv HF rfl rfl rfl rfl rfl ?_; clear HF a; intro a HF
 refine HF.cases 17 rfl (fun cc1 HF1 => ?_) (fun cc1 HF1 => ?_)
 ·clear HF; have HF := HF1; clear HF1
  have dcc1 := of_decide_eq_true cc1
  refine wl_skip HF rfl rfl rfl rfl rfl rfl ?_; clear HF a; intro a HF
  refine wl_skip HF rfl rfl rfl rfl rfl rfl ?_; clear HF a; intro a HF
  refine wl_skip HF rfl rfl rfl rfl rfl rfl ?_; clear HF a; intro a HF
  refine wl_skip HF rfl rfl rfl rfl rfl rfl ?_; clear HF a; intro a HF
  refine wl_skip HF rfl rfl rfl rfl rfl rfl ?_; clear HF a; intro a HF
  refine wl_skip HF rfl rfl rfl rfl rfl rfl ?_; clear HF a; intro a HF
  refine wl_y rfl HF rfl rfl (yl_pick_t rfl (HF.ev rfl) (HF.ev rfl)) ?_; clear HF a; intro a HF
  refine wl_ne ?_
  refine wc_true HF rfl ?_
  refine wp_sr ?_
  refine wl_as HF rfl rfl rfl rfl rfl ?_; clear HF a; intro a HF
  refine wl_ne ?_
  refine wp_ret ?_
  refine ex_then_ret ?_
  refine bp_ret1 HF Tryz.results26 (HF.res rfl) ?_
  exact ⟨_, rfl, by omega, by omega, St.rdMk (p := p + 1) (by omega) HS.out⟩
 ·clear HF; have HF := HF1; clear HF1
  have dcc1 := of_decide_eq_false cc1
  refine wl_yg HF rfl rfl rfl rfl rfl (yl_move rfl (HF.ev rfl)) ?_; clear HF a; intro a HF
  refine wl_yg HF rfl rfl rfl rfl rfl (yl_nilCheck rfl (HF.ev rfl)) ?_; clear HF a; intro a HF
  refine wl_yg HF rfl rfl rfl rfl rfl (yl_fieldAddr (j := 0) rfl (HF.ev rfl) (by kernel_rfl)) ?_; clear HF a; intro a HF
  refine wl_yg HF rfl rfl rfl rfl rfl (yl_load (v := .slice ab n cb) rfl (HF.ev rfl) (((HS.out.box 0 rfl).cell 0).trans rfl) (by kernel_rfl)) ?_; clear HF a; intro a HF
  refine wl_yg HF rfl rfl rfl rfl rfl (yl_lenL (e := 5) (size := 1) rfl (HF.ev rfl) (by kernel_rfl)) ?_; clear HF a; intro a HF
  refine wl_yg HF rfl rfl rfl rfl rfl (yl_eqlI rfl (HF.ev rfl) (HF.ev rfl)) ?_; clear HF a; intro a HF
  refine wl_y rfl HF rfl rfl (yl_pick_f rfl (HF.ev rfl) (HF.ev rfl)) ?_; clear HF a; intro a HF
  refine wl_ne ?_
  refine HF.cases 24 rfl (fun cc2 HF1 => ?_) (fun cc2 HF1 => ?_)
  ·clear HF; have HF := HF1; clear HF1
   have dcc2 := eq_of_beq cc2
   refine wc_true HF rfl ?_
   refine wp_sr ?_
   refine wl_as HF rfl rfl rfl rfl rfl ?_; clear HF a; intro a HF
   refine wl_ne ?_
   refine wp_ret ?_
   refine ex_then_ret ?_
   refine bp_ret1 HF Tryz.results26 (HF.res rfl) ?_
   exact ⟨_, rfl, by omega, by omega, St.rdMk (p := p + 1) (by omega) HS.out⟩
  ·clear HF; have HF := HF1; clear HF1
   have dcc2 := ne_of_beq_false cc2
   refine wc_false HF rfl ?_
   refine wp_skip ?_
   refine ex_then ?_
   refine wp_sr ?_
   refine wl_mv HF rfl rfl rfl rfl rfl ?_; clear HF a; intro a HF
   refine wl_y rfl HF rfl rfl (yl_nilCheck rfl (HF.ev rfl)) ?_; clear HF a; intro a HF
   refine wl_y rfl HF rfl rfl (yl_fieldAddr (j := 1) rfl (HF.ev rfl) (by kernel_rfl)) ?_; clear HF a; intro a HF
   refine wl_y rfl HF rfl rfl (yl_load (v := .int .i64 ((p : Int) + 1)) rfl (HF.ev rfl) (((HS.out.box 0 rfl).cell 1).trans rfl) (by kernel_rfl)) ?_; clear HF a; intro a HF
   refine wl_y rfl HF rfl rfl (yl_subI (r := (p : Int)) rfl (HF.ev rfl) (HF.ev rfl) ((i64w (by omega)).trans (by omega))) ?_; clear HF a; intro a HF
   refine wl_as HF rfl rfl rfl rfl rfl ?_; clear HF a; intro a HF
   refine wl_ne ?_
   refine wp_seq ?_
   refine wp_sr ?_
   refine wl_mv HF rfl rfl rfl rfl rfl ?_; clear HF a; intro a HF
   refine wl_mv HF rfl rfl rfl rfl rfl ?_; clear HF a; intro a HF
   refine wl_y rfl HF rfl rfl (yl_nilCheck rfl (HF.ev rfl)) ?_; clear HF a; intro a HF
   refine wl_y rfl HF rfl rfl (yl_fieldAddr (j := 0) rfl (HF.ev rfl) (by kernel_rfl)) ?_; clear HF a; intro a HF
   refine wl_y rfl HF rfl rfl (yl_load (v := .slice ab n cb) rfl (HF.ev rfl) (((HS.out.box 0 rfl).cell 0).trans rfl) (by kernel_rfl)) ?_; clear HF a; intro a HF
   refine wl_y rfl HF rfl rfl (yl_lenL (e := 5) (size := 1) rfl (HF.ev rfl) (by kernel_rfl)) ?_; clear HF a; intro a HF
   refine wl_y rfl HF rfl rfl (yl_lssI rfl (HF.ev rfl) (HF.ev rfl)) ?_; clear HF a; intro a HF
   refine wl_ne ?_
   refine HF.cases 36 rfl (fun cc3 HF1 => ?_) (fun cc3 HF1 => ?_)
   ·clear HF; have HF := HF1; clear HF1
    have dcc3 := of_decide_eq_true cc3
    refine wc_true HF rfl ?_
    refine wp_seq ?_
    have hb1 := u8_b (bs.getD p 0)
    refine wp_region_lit ?_
    refine wl_mv HF rfl rfl rfl rfl rfl ?_; clear HF a; intro a HF
    refine wl_y rfl HF rfl rfl (yl_nilCheck rfl (HF.ev rfl)) ?_; clear HF a; intro a HF
    refine wl_y rfl HF rfl rfl (yl_fieldAddr (j := 0) rfl (HF.ev rfl) (by kernel_rfl)) ?_; clear HF a; intro a HF
    refine wl_y rfl HF rfl rfl (yl_load (v := .slice ab n cb) rfl (HF.ev rfl) (((HS.out.box 0 rfl).cell 0).trans rfl) (by kernel_rfl)) ?_; clear HF a; intro a HF
    refine wl_mv HF rfl rfl rfl rfl rfl ?_; clear HF a; intro a HF
    refine wl_y rfl HF rfl rfl (yl_indexAddrR (e := 5) (i := p) (size := 1) rfl (HF.ev rfl) (HF.ev rfl) (by kernel_rfl) rfl (by omega) (RB.out.ao p (by omega))) ?_; clear HF a; intro a HF
    refine wl_y rfl HF rfl rfl (yl_load (v := .int .u8 ((bs.getD p 0).toNat : Int)) rfl (HF.ev rfl) (RB.out.elem1 HS.out (get_getD (xs := bs) (j := p) (d := 0) (by omega)) rfl) (by kernel_rfl)) ?_; clear HF a; intro a HF
    refine wl_y rfl HF rfl rfl (yl_convU8 (n := ((bs.getD p 0).toNat : Int)) rfl (HF.ev rfl) (u8_b _) (by kernel_rfl) (by kernel_rfl)) ?_; clear HF a; intro a HF
    refine wl_mv HF rfl rfl rfl rfl rfl ?_; clear HF a; intro a HF
    refine wl_y rfl HF rfl rfl (yl_remI rfl (HF.ev rfl) (HF.ev rfl) (by omega) (rem_pos (by omega) (by omega))) ?_; clear HF a; intro a HF
    refine wl_as HF rfl rfl rfl rfl rfl ?_; clear HF a; intro a HF
    refine wl_ne ?_
    refine wp_ret ?_
    refine ex_then_ret ?_
    refine bp_ret1 HF Tryz.results26 (HF.res rfl) ?_
    have e8 := Int.emod_nonneg (((bs.getD p 0).toNat : Int)) (show m ≠ 0 by omega); have e9 := Int.emod_lt_of_pos (((bs.getD p 0).toNat : Int)) (show 0 < m by omega)
    exact ⟨_, rfl, by omega, by omega, St.rdMk (p := p + 1) (by omega) HS.out⟩
   ·clear HF; have HF := HF1; clear HF1
    have dcc3 := of_decide_eq_false cc3
    refine wc_false HF rfl ?_
    refine wp_skip ?_
    refine ex_then ?_
    refine wp_seq ?_
    have e1 := Int.emod_nonneg (p : Int) (show (n : Int) ≠ 0 by omega); have e2 := Int.emod_lt_of_pos (p : Int) (show (0 : Int) < (n : Int) by omega)
    have e3 := Int.emod_nonneg ((p : Int) * 7 + 3) (show (n : Int) ≠ 0 by omega); have e4 := Int.emod_lt_of_pos ((p : Int) * 7 + 3) (show (0 : Int) < (n : Int) by omega)
    have e5 := Int.ediv_nonneg (show (0 : Int) ≤ (p : Int) by omega) (show (0 : Int) ≤ (n : Int) by omega); have e6 := Int.ediv_le_self (a := (p : Int)) (n : Int) (by omega)
    obtain ⟨i1, hi1⟩ : ∃ i1 : Nat, (p : Int) % (n : Int) = (i1 : Int) := ⟨((p : Int) % (n : Int)).toNat, by omega⟩; obtain ⟨i2, hi2⟩ : ∃ i2 : Nat, ((p : Int) * 7 + 3) % (n : Int) = (i2 : Int) := ⟨(((p : Int) * 7 + 3) % (n : Int)).toNat, by omega⟩
    have hb1 := u8_b (bs.getD i1 0); have hb2 := u8_b (bs.getD i2 0)
    refine wr_quiet (by kernel_rfl) (by kernel_rfl) HS.out ?_
    refine wq_y rfl HF rfl rfl (fun _ HS => (yl_move rfl (HF.ev rfl))) ?_; clear HF a; intro a HF
    refine wq_y rfl HF rfl rfl (fun _ HS => (yl_nilCheck rfl (HF.ev rfl))) ?_; clear HF a; intro a HF
    refine wq_y rfl HF rfl rfl (fun _ HS => (yl_fieldAddr (j := 0) rfl (HF.ev rfl) (by kernel_rfl))) ?_; clear HF a; intro a HF
    refine wq_y rfl HF rfl rfl (fun _ HS => (yl_load (v := .slice ab n cb) rfl (HF.ev rfl) (((HS.box 0 rfl).cell 0).trans rfl) (by kernel_rfl))) ?_; clear HF a; intro a HF
    refine wq_y rfl HF rfl rfl (fun _ HS => (yl_move rfl (HF.ev rfl))) ?_; clear HF a; intro a HF
    refine wq_y rfl HF rfl rfl (fun _ HS => (yl_move rfl (HF.ev rfl))) ?_; clear HF a; intro a HF
    refine wq_y rfl HF rfl rfl (fun _ HS => (yl_nilCheck rfl (HF.ev rfl))) ?_; clear HF a; intro a HF
    refine wq_y rfl HF rfl rfl (fun _ HS => (yl_fieldAddr (j := 0) rfl (HF.ev rfl) (by kernel_rfl))) ?_; clear HF a; intro a HF
    refine wq_y rfl HF rfl rfl (fun _ HS => (yl_load (v := .slice ab n cb) rfl (HF.ev rfl) (((HS.box 0 rfl).cell 0).trans rfl) (by kernel_rfl))) ?_; clear HF a; intro a HF
    refine wq_y rfl HF rfl rfl (fun _ HS => (yl_lenL (e := 5) (size := 1) rfl (HF.ev rfl) (by kernel_rfl))) ?_; clear HF a; intro a HF
    refine wq_y rfl HF rfl rfl (fun _ HS => (yl_remI rfl (HF.ev rfl) (HF.ev rfl) (by omega) (rem_pos (by omega) (by omega)))) ?_; clear HF a; intro a HF
    refine wq_y rfl HF rfl rfl (fun _ HS => (yl_indexAddrR (e := 5) (i := i1) (size := 1) rfl (HF.ev rfl) (HF.ev rfl) (by kernel_rfl) (by omega) (by omega) (RB.out.ao i1 (by omega)))) ?_; clear HF a; intro a HF
    refine wq_y rfl HF rfl rfl (fun _ HS => (yl_load (v := .int .u8 ((bs.getD i1 0).toNat : Int)) rfl (HF.ev rfl) (RB.out.elem1 HS (get_getD (xs := bs) (j := i1) (d := 0) (by omega)) rfl) (by kernel_rfl))) ?_; clear HF a; intro a HF
    refine wq_y rfl HF rfl rfl (fun _ HS => (yl_convU8 (n := ((bs.getD i1 0).toNat : Int)) rfl (HF.ev rfl) (u8_b _) (by kernel_rfl) (by kernel_rfl))) ?_; clear HF a; intro a HF
    refine wq_y rfl HF rfl rfl (fun _ HS => (yl_mulI rfl (HF.ev rfl) (HF.ev rfl) (i64w (by omega)))) ?_; clear HF a; intro a HF
    refine wq_y rfl HF rfl rfl (fun _ HS => (yl_move rfl (HF.ev rfl))) ?_; clear HF a; intro a HF
    refine wq_y rfl HF rfl rfl (fun _ HS => (yl_nilCheck rfl (HF.ev rfl))) ?_; clear HF a; intro a HF
    refine wq_y rfl HF rfl rfl (fun _ HS => (yl_fieldAddr (j := 0) rfl (HF.ev rfl) (by kernel_rfl))) ?_; clear HF a; intro a HF
    refine wq_y rfl HF rfl rfl (fun _ HS => (yl_load (v := .slice ab n cb) rfl (HF.ev rfl) (((HS.box 0 rfl).cell 0).trans rfl) (by kernel_rfl))) ?_; clear HF a; intro a HF
    refine wq_y rfl HF rfl rfl (fun _ HS => (yl_move rfl (HF.ev rfl))) ?_; clear HF a; intro a HF
    refine wq_y rfl HF rfl rfl (fun _ HS => (yl_mulI rfl (HF.ev rfl) (HF.ev rfl) (i64w (by omega)))) ?_; clear HF a; intro a HF
    refine wq_y rfl HF rfl rfl (fun _ HS => (yl_addI rfl (HF.ev rfl) (HF.ev rfl) (i64w (by omega)))) ?_; clear HF a; intro a HF
    refine wq_y rfl HF rfl rfl (fun _ HS => (yl_move rfl (HF.ev rfl))) ?_; clear HF a; intro a HF
    refine wq_y rfl HF rfl rfl (fun _ HS => (yl_nilCheck rfl (HF.ev rfl))) ?_; clear HF a; intro a HF
    refine wq_y rfl HF rfl rfl (fun _ HS => (yl_fieldAddr (j := 0) rfl (HF.ev rfl) (by kernel_rfl))) ?_; clear HF a; intro a HF
    refine wq_y rfl HF rfl rfl (fun _ HS => (yl_load (v := .slice ab n cb) rfl (HF.ev rfl) (((HS.box 0 rfl).cell 0).trans rfl) (by kernel_rfl))) ?_; clear HF a; intro a HF
    refine wq_y rfl HF rfl rfl (fun _ HS => (yl_lenL (e := 5) (size := 1) rfl (HF.ev rfl) (by kernel_rfl))) ?_; clear HF a; intro a HF
    refine wq_y rfl HF rfl rfl (fun _ HS => (yl_remI rfl (HF.ev rfl) (HF.ev rfl) (by omega) (rem_pos (by omega) (by omega)))) ?_; clear HF a; intro a HF
    refine wq_y rfl HF rfl rfl (fun _ HS => (yl_indexAddrR (e := 5) (i := i2) (size := 1) rfl (HF.ev rfl) (HF.ev rfl) (by kernel_rfl) (by omega) (by omega) (RB.out.ao i2 (by omega)))) ?_; clear HF a; intro a HF
    refine wq_y rfl HF rfl rfl (fun _ HS => (yl_load (v := .int .u8 ((bs.getD i2 0).toNat : Int)) rfl (HF.ev rfl) (RB.out.elem1 HS (get_getD (xs := bs) (j := i2) (d := 0) (by omega)) rfl) (by kernel_rfl))) ?_; clear HF a; intro a HF
    refine wq_y rfl HF rfl rfl (fun _ HS => (yl_convU8 (n := ((bs.getD i2 0).toNat : Int)) rfl (HF.ev rfl) (u8_b _) (by kernel_rfl) (by kernel_rfl))) ?_; clear HF a; intro a HF
    refine wq_y rfl HF rfl rfl (fun _ HS => (yl_mulI rfl (HF.ev rfl) (HF.ev rfl) (i64w (by omega)))) ?_; clear HF a; intro a HF
    refine wq_y rfl HF rfl rfl (fun _ HS => (yl_addI rfl (HF.ev rfl) (HF.ev rfl) (i64w (by omega)))) ?_; clear HF a; intro a HF
    refine wq_y rfl HF rfl rfl (fun _ HS => (yl_move rfl (HF.ev rfl))) ?_; clear HF a; intro a HF
    refine wq_y rfl HF rfl rfl (fun _ HS => (yl_mulI rfl (HF.ev rfl) (HF.ev rfl) (i64w (by omega)))) ?_; clear HF a; intro a HF
    refine wq_y rfl HF rfl rfl (fun _ HS => (yl_addI rfl (HF.ev rfl) (HF.ev rfl) (i64w (by omega)))) ?_; clear HF a; intro a HF
    refine wq_y rfl HF rfl rfl (fun _ HS => (yl_move rfl (HF.ev rfl))) ?_; clear HF a; intro a HF
    refine wq_y rfl HF rfl rfl (fun _ HS => (yl_move rfl (HF.ev rfl))) ?_; clear HF a; intro a HF
    refine wq_y rfl HF rfl rfl (fun _ HS => (yl_nilCheck rfl (HF.ev rfl))) ?_; clear HF a; intro a HF
    refine wq_y rfl HF rfl rfl (fun _ HS => (yl_fieldAddr (j := 0) rfl (HF.ev rfl) (by kernel_rfl))) ?_; clear HF a; intro a HF
    refine wq_y rfl HF rfl rfl (fun _ HS => (yl_load (v := .slice ab n cb) rfl (HF.ev rfl) (((HS.box 0 rfl).cell 0).trans rfl) (by kernel_rfl))) ?_; clear HF a; intro a HF
    refine wq_y rfl HF rfl rfl (fun _ HS => (yl_lenL (e := 5) (size := 1) rfl (HF.ev rfl) (by kernel_rfl))) ?_; clear HF a; intro a HF
    refine wq_y rfl HF rfl rfl (fun _ HS => (yl_quoI rfl (HF.ev rfl) (HF.ev rfl) (by omega) (quo_pos (by omega) (by omega) (by omega)))) ?_; clear HF a; intro a HF
    refine wq_y rfl HF rfl rfl (fun _ HS => (yl_mulI rfl (HF.ev rfl) (HF.ev rfl) (i64w (by omega)))) ?_; clear HF a; intro a HF
    refine wq_y rfl HF rfl rfl (fun _ HS => (yl_addI rfl (HF.ev rfl) (HF.ev rfl) (i64w (by omega)))) ?_; clear HF a; intro a HF
    refine wq_y rfl HF rfl rfl (fun _ HS => (yl_assign rfl (HF.ev rfl))) ?_; clear HF a; intro a HF
    refine wpQuiet_nil ?_; intro w2 HS; replace HS := Bx.mk HS
    refine ex_then ?_
    refine wp_seq ?_
    obtain ⟨xn, hxn⟩ : ∃ xn : Nat, ((((((bs.getD i1 0).toNat : Int) * 131) + (((bs.getD i2 0).toNat : Int) * 1117)) + ((p : Int) * 29)) + (((p : Int) / (n : Int)) * 53)) = (xn : Int) := ⟨((((((bs.getD i1 0).toNat : Int) * 131) + (((bs.getD i2 0).toNat : Int) * 1117)) + ((p : Int) * 29)) + (((p : Int) / (n : Int)) * 53)).toNat, by omega⟩; have hxb : xn < 1000000000000 := (by omega); rw [hxn] at HF
    refine wp_region_lit ?_
    refine wl_mv HF rfl rfl rfl rfl rfl ?_; clear HF a; intro a HF
    refine wl_mv HF rfl rfl rfl rfl rfl ?_; clear HF a; intro a HF
    refine wl_y rfl HF rfl rfl (yl_quoI rfl (HF.ev rfl) (HF.ev rfl) (by omega) (quo_pos (by omega) (by omega) (by omega))) ?_; clear HF a; intro a HF
    refine wl_y rfl HF rfl rfl (yl_xorI (m := xn) (n := (xn / 64)) rfl (HF.ev rfl) (HF.ev rfl) (by omega) (by omega)) ?_; clear HF a; intro a HF
    refine wl_as HF rfl rfl rfl rfl rfl ?_; clear HF a; intro a HF
    refine wl_ne ?_
    refine wp_sr ?_
    refine wl_mv HF rfl rfl rfl rfl rfl ?_; clear HF a; intro a HF
    refine wl_mv HF rfl rfl rfl rfl rfl ?_; clear HF a; intro a HF
    refine wl_y rfl HF rfl rfl (yl_remI rfl (HF.ev rfl) (HF.ev rfl) (by omega) (rem_pos (by omega) (by omega))) ?_; clear HF a; intro a HF
    refine wl_as HF rfl rfl rfl rfl rfl ?_; clear HF a; intro a HF
    refine wl_ne ?_
    refine wp_ret ?_
    refine bp_ret1 HF Tryz.results26 (HF.res rfl) ?_
    have e8 := Int.emod_nonneg (((xn ^^^ (xn / 64) : Nat) : Int)) (show m ≠ 0 by omega); have e9 := Int.emod_lt_of_pos (((xn ^^^ (xn / 64) : Nat) : Int)) (show 0 < m by omega)
    exact ⟨_, rfl, by omega, by omega, St.rdMk (p := p + 1) (by omega) HS.out⟩

theorem pickN (w0 w : World) (rb : Nat) (ab : Option Addr) (n cb : Nat) (bs : List UInt8) (hn : n ≤ 2000) (hR : Rd encB 1 w0 ab n bs) (B : Nat) (hB : B ≤ 950000) (m : Int) (hm : m ≤ 1000000) (F : List Asr) (hS : St w0 (rdA rb ab n cb B :: F) w) : Calls Tryz.prog 26 #[.pointer (some ⟨rb, 0, none⟩), .int .i64 m] w fun e w' => ∃ v : Nat, e = .returned (.int .i64 (v : Int)) ∧ ((v : Int) < m ∨ v = 0) ∧ St w0 (rdA rb ab n cb (B + 1) :: F) w' := by
  refine (pick_any w0 w rb ab n cb bs hn hR B (by omega) m hm F hS).mono ?_
  rintro e w' ⟨v, rfl, h0, h1, hs⟩
  obtain ⟨u, rfl⟩ := Int.eq_ofNat_of_zero_le h0
  exact ⟨u, rfl, by omega, hs⟩

end Go.Proofs.YtnikdicehddehaaGreatDoor

/- Numbers read from texts: walked. -/
namespace Go.Proofs.YtnikdicehddehaaGreatDoor
set_option linter.unusedVariables false
set_option linter.unusedSimpArgs false
set_option maxHeartbeats 1000000
set_option maxRecDepth 100000
open Go.RowKit

section
variable {P : Program} {w : World} {o : Oper} {a : Act} {t t' : TypeId} {x y : Operand}
theorem yl_neNil (ho : o.op = .binOp .neq t x (.const .nilIface) t') (hu : P.underlying t = some (.interface (P.methodsAt t))) (hx : a.eval x = .nilIface) : Yl P w o a (.bool false) := by
  have hy : a.eval (.const .nilIface) = .nilIface := rfl
  simp [Yl, execOp, ho, hx, hy, eqGuard, binOp, run_equal_nil_nil w t hu]
theorem yl_neErr (ho : o.op = .binOp .neq t x (.const .nilIface) t') (hu : P.underlying t = some (.interface (P.methodsAt t))) {te : TypeId} {pe : Value} (hx : a.eval x = .iface te pe) : Yl P w o a (.bool true) := by
  have hy : a.eval (.const .nilIface) = .nilIface := rfl
  simp [Yl, execOp, ho, hx, hy, eqGuard, binOp, run_equal_held_nil w t te pe hu]
end
/-- The variable of the library that tells of a bad number holds an error. -/
def ErrP (w : World) : Prop := ∃ te pe, w.cell? ⟨2, 0, none⟩ = some (.iface te pe)
theorem ErrP.below {w w' : World} (h : ErrP w) (hb : Below w.heap.size w w') : ErrP w' := by
  obtain ⟨te, pe, hm⟩ := h
  have hlt : 2 < w.heap.size := World.block_lt_of_cell? w _ hm
  exact ⟨te, pe, (hb.cell (p := ⟨2, 0, none⟩) hlt).trans hm⟩
theorem atoi_ways (s : ByteArray) (w : World) (hl : s.size ≤ 18) (hE : ErrP w) : Calls Tryz.prog 36 #[.string s] w fun e w' => (∃ n, Go.Lib.atoi s.data.toList = some n ∧ e = .returned (.tuple #[.int .i64 n, .nilIface]) ∧ Below w.heap.size w w') ∨ (∃ te pe, Go.Lib.atoi s.data.toList = none ∧ e = .returned (.tuple #[.int .i64 0, .iface te pe]) ∧ Below w.heap.size w w') := by
  cases h : Go.Lib.atoi s.data.toList with
  | some n =>
    refine (Any.strconv_Atoi layAtoi s n hl h w).mono ?_
    rintro e w' ⟨rfl, t, rfl⟩
    exact .inl ⟨n, rfl, rfl, Go.Lib.bytesWorld_below _ _ _⟩
  | none =>
    obtain ⟨te, pe, hv⟩ := hE
    refine (Any.strconv_Atoi_err layAtoiC s hl h (.iface te pe) w hv (.inr ⟨te, pe, rfl⟩)).mono ?_
    rintro e w' ⟨N, rfl, _, _, hb⟩
    exact .inr ⟨_, _, rfl, rfl, hb⟩
theorem digit_in {b : UInt8} (h1 : 48 ≤ (b.toNat : Int)) (h2 : (b.toNat : Int) ≤ 57) : Go.Lib.digitVal b = some (b.toNat - 48) := by unfold Go.Lib.digitVal; rw [if_pos (by omega)]
theorem digit_out {b : UInt8} (h : ¬ (48 ≤ (b.toNat : Int) ∧ (b.toNat : Int) ≤ 57)) : Go.Lib.digitVal b = none := by unfold Go.Lib.digitVal; rw [if_neg (by omega)]
theorem head_byte {s : ByteArray} (h : 0 < s.size) : (s.data.toList.head? = some 48) ↔ ((s.get! 0).toNat : Int) = 48 := by
  rw [List.head?_eq_getElem?, get_q h]
  constructor
  · intro e; rw [Option.some.inj e]; rfl
  · intro e; congr 1; exact UInt8.toNat_inj.1 (by show (s.get! 0).toNat = 48; omega)
theorem dec_pow {s : ByteArray} {k n : Nat} (hk : k ≤ s.size) (h9 : k ≤ 9) (h : Go.Lib.decFrom 0 (s.data.toList.take k) = some n) : n ≤ 999999999 := by
  have hz := size_list s
  have := decFrom_lt k _ n (by rw [List.length_take]; omega) h
  have : n < 10 ^ 9 := Nat.lt_of_lt_of_le this (Nat.pow_le_pow_right (by omega) h9)
  omega

theorem dec_at : ∀ (l : List UInt8) (acc n j : Nat), Go.Lib.decFrom acc l = some n → j < l.length → ∃ b d, l[j]? = some b ∧ Go.Lib.digitVal b = some d
  | b :: t, acc, n, j, h, hj => by
    have h : (match Go.Lib.digitVal b with | some d => Go.Lib.decFrom (acc * 10 + d) t | none => none) = some n := h
    cases h2 : Go.Lib.digitVal b with
    | none => rw [h2] at h; cases h
    | some d =>
      rw [h2] at h
      cases j with
      | zero => exact ⟨b, d, rfl, h2⟩
      | succ j => exact dec_at t _ n j h (by simpa using hj)
theorem dec_second {s : ByteArray} {k n : Nat} (h : Go.Lib.decFrom 0 (s.data.toList.take k) = some n) (hk : 1 < k ∧ k ≤ s.size) : ∃ d, Go.Lib.digitVal (s.get! 1) = some d := by
  have hz := size_list s
  obtain ⟨b, d, h1, h2⟩ := dec_at _ 0 n 1 h (by rw [List.length_take]; omega)
  rw [List.getElem?_take, if_pos (by omega), get_q (by omega)] at h1
  rw [Option.some.inj h1]; exact ⟨d, h2⟩

theorem l1Num_any (s : ByteArray) (w0 : World) (hs : s.size ≤ 1099511627776) : Calls Tryz.prog 53 #[.string s] w0 fun e w' => ∃ n k, l1S s n k ∧ n ≤ 999999999 ∧ e = .returned (.tuple #[.int .i64 (n : Int), .int .i64 (k : Int)]) ∧ Below w0.heap.size w0 w' := by
 have HS := Bx.mk (St.start w0)
 refine wc_enter Tryz.func53 rfl Tryz.ntmps53 [(0, .string s)] ⟨rfl, trivial⟩ rfl ?_; intro a HF
 refine wp_sr ?_
 refine wl_as HF rfl rfl rfl rfl rfl ?_; clear HF a; intro a HF
 refine wl_as HF rfl rfl rfl rfl rfl ?_; clear HF a; intro a HF
 refine wl_ne ?_
 refine wp_sr ?_
 refine wl_as HF rfl rfl rfl rfl rfl ?_; clear HF a; intro a HF
 refine wl_ne ?_
 refine wp_sr ?_
 refine wl_as HF rfl rfl rfl rfl rfl ?_; clear HF a; intro a HF
 refine wl_ne ?_
 refine wp_seq ?_
 refine wp_block ?_
 refine wc_loop (ι := Nat) (fun k a w => ∃ (n : Nat), (k ≤ s.size ∧ k ≤ 9 ∧ Go.Lib.decFrom 0 (s.data.toList.take k) = some n) ∧ Fr 45 a [(0, .string s), (4, .int .i64 (n : Int)), (5, .int .i64 (k : Int))] ∧ St w0 ([]) w) (fun k => 9 - k) 0 ⟨0, ⟨Nat.zero_le _, Nat.zero_le _, rfl⟩, HF.less _ ⟨rfl, rfl, rfl, trivial⟩, HS.out⟩ ?_
 clear HF HS; clear a
 rintro k a w1 ⟨n, ⟨hk, hk9, hd⟩, HF, HS⟩
 replace HS := Bx.mk HS
 have hn9 := dec_pow hk hk9 hd
 refine wp_seq ?_
 refine wp_sr ?_
 refine wl_mv HF rfl rfl rfl rfl rfl ?_; clear HF a; intro a HF
 refine wl_mv HF rfl rfl rfl rfl rfl ?_; clear HF a; intro a HF
 refine wl_y rfl HF rfl rfl (yl_lenS rfl (HF.ev rfl) (by kernel_rfl)) ?_; clear HF a; intro a HF
 refine wl_y rfl HF rfl rfl (yl_lssI rfl (HF.ev rfl) (HF.ev rfl)) ?_; clear HF a; intro a HF
 refine wl_mv HF rfl rfl rfl rfl rfl ?_; clear HF a; intro a HF
 refine HF.cases 10 rfl (fun cc1 HF1 => ?_) (fun cc1 HF1 => ?_)
 ·clear HF; have HF := HF1; clear HF1
  have dcc1 := of_decide_eq_true cc1
  refine wl_yg HF rfl rfl rfl rfl rfl (yl_move rfl (HF.ev rfl)) ?_; clear HF a; intro a HF
  refine wl_yg HF rfl rfl rfl rfl rfl (yl_lssI rfl (HF.ev rfl) (HF.ev rfl)) ?_; clear HF a; intro a HF
  refine wl_y rfl HF rfl rfl (yl_pick_t rfl (HF.ev rfl) (HF.ev rfl)) ?_; clear HF a; intro a HF
  refine wl_mv HF rfl rfl rfl rfl rfl ?_; clear HF a; intro a HF
  refine HF.cases 14 rfl (fun cc2 HF1 => ?_) (fun cc2 HF1 => ?_)
  ·clear HF; have HF := HF1; clear HF1
   have dcc2 := of_decide_eq_true cc2
   refine wl_yg HF rfl rfl rfl rfl rfl (yl_move rfl (HF.ev rfl)) ?_; clear HF a; intro a HF
   refine wl_yg HF rfl rfl rfl rfl rfl (yl_move rfl (HF.ev rfl)) ?_; clear HF a; intro a HF
   refine wl_yg HF rfl rfl rfl rfl rfl (yl_indexS (i := k) rfl (HF.ev rfl) (HF.ev rfl) (by kernel_rfl) (by omega) (by omega)) ?_; clear HF a; intro a HF
   refine wl_yg HF rfl rfl rfl rfl rfl (yl_geqI rfl (HF.ev rfl) (HF.ev rfl)) ?_; clear HF a; intro a HF
   refine wl_y rfl HF rfl rfl (yl_pick_t rfl (HF.ev rfl) (HF.ev rfl)) ?_; clear HF a; intro a HF
   refine wl_mv HF rfl rfl rfl rfl rfl ?_; clear HF a; intro a HF
   refine HF.cases 20 rfl (fun cc3 HF1 => ?_) (fun cc3 HF1 => ?_)
   ·clear HF; have HF := HF1; clear HF1
    have dcc3 := of_decide_eq_true cc3
    refine wl_yg HF rfl rfl rfl rfl rfl (yl_move rfl (HF.ev rfl)) ?_; clear HF a; intro a HF
    refine wl_yg HF rfl rfl rfl rfl rfl (yl_move rfl (HF.ev rfl)) ?_; clear HF a; intro a HF
    refine wl_yg HF rfl rfl rfl rfl rfl (yl_indexS (i := k) rfl (HF.ev rfl) (HF.ev rfl) (by kernel_rfl) (by omega) (by omega)) ?_; clear HF a; intro a HF
    refine wl_yg HF rfl rfl rfl rfl rfl (yl_leqI rfl (HF.ev rfl) (HF.ev rfl)) ?_; clear HF a; intro a HF
    refine wl_y rfl HF rfl rfl (yl_pick_t rfl (HF.ev rfl) (HF.ev rfl)) ?_; clear HF a; intro a HF
    refine wl_ne ?_
    refine HF.cases 25 rfl (fun cc4 HF1 => ?_) (fun cc4 HF1 => ?_)
    ·clear HF; have HF := HF1; clear HF1
     have dcc4 := of_decide_eq_true cc4
     refine wc_true HF rfl ?_
     refine wp_skip ?_
     refine ex_then ?_
     refine wp_block ?_
     refine wp_sr ?_
     refine wl_mv HF rfl rfl rfl rfl rfl ?_; clear HF a; intro a HF
     refine wl_y rfl HF rfl rfl (yl_mulI rfl (HF.ev rfl) (HF.ev rfl) (i64w (by omega))) ?_; clear HF a; intro a HF
     refine wl_mv HF rfl rfl rfl rfl rfl ?_; clear HF a; intro a HF
     refine wl_mv HF rfl rfl rfl rfl rfl ?_; clear HF a; intro a HF
     refine wl_y rfl HF rfl rfl (yl_indexS (i := k) rfl (HF.ev rfl) (HF.ev rfl) (by kernel_rfl) (by omega) (by omega)) ?_; clear HF a; intro a HF
     refine wl_y rfl HF rfl rfl (yl_subI (r := ((s.get! k).toNat : Int) - 48) rfl (HF.ev rfl) (HF.ev rfl) (IntWalk.u8_in _ (by omega))) ?_; clear HF a; intro a HF
     refine wl_y rfl HF rfl rfl (yl_convU8 (n := (((s.get! k).toNat : Int) - 48)) rfl (HF.ev rfl) (by omega) (by kernel_rfl) (by kernel_rfl)) ?_; clear HF a; intro a HF
     refine wl_y rfl HF rfl rfl (yl_addI (r := ((n * 10 + ((s.get! k).toNat - 48) : Nat) : Int)) rfl (HF.ev rfl) (HF.ev rfl) ((i64w (by omega)).trans (by omega))) ?_; clear HF a; intro a HF
     refine wl_as HF rfl rfl rfl rfl rfl ?_; clear HF a; intro a HF
     refine wl_ne ?_
     refine wp_region_lit ?_
     refine wl_mv HF rfl rfl rfl rfl rfl ?_; clear HF a; intro a HF
     refine wl_y rfl HF rfl rfl (yl_addI rfl (HF.ev rfl) (HF.ev rfl) (i64w (by omega))) ?_; clear HF a; intro a HF
     refine wl_as HF rfl rfl rfl rfl rfl ?_; clear HF a; intro a HF
     refine wpList_nil ?_
     refine ex_block ?_
     refine ex_then ?_
     have hdg := digit_in (b := s.get! k) (by omega) (by omega)
     have hd2 := Go.Lib.decFrom_take s.data.toList k 0 n _ _ hd (get_q (by omega)) hdg
     exact ⟨k + 1, ⟨n * 10 + ((s.get! k).toNat - 48), ⟨by omega, by omega, hd2⟩, HF.less _ ⟨rfl, rfl, rfl, trivial⟩, HS.out⟩, (by omega)⟩
    ·clear HF; have HF := HF1; clear HF1
     have dcc4 := of_decide_eq_false cc4
     refine wc_false HF rfl ?_
     refine wp_exit ?_
     refine ex_then_exit ?_
     refine ex_then_exit ?_
     refine ex_block_hit ?_
     refine ex_then ?_
     refine wp_seq ?_
     refine wp_sr ?_
     refine wl_mv HF rfl rfl rfl rfl rfl ?_; clear HF a; intro a HF
     refine wl_y rfl HF rfl rfl (yl_gtrI rfl (HF.ev rfl) (HF.ev rfl)) ?_; clear HF a; intro a HF
     refine wl_mv HF rfl rfl rfl rfl rfl ?_; clear HF a; intro a HF
     refine HF.cases 38 rfl (fun cc5 HF1 => ?_) (fun cc5 HF1 => ?_)
     ·clear HF; have HF := HF1; clear HF1
      have dcc5 := of_decide_eq_true cc5
      refine wl_yg HF rfl rfl rfl rfl rfl (yl_move rfl (HF.ev rfl)) ?_; clear HF a; intro a HF
      refine wl_yg HF rfl rfl rfl rfl rfl (yl_indexS (i := 0) rfl (HF.ev rfl) (HF.ev rfl) (by kernel_rfl) (by omega) (by omega)) ?_; clear HF a; intro a HF
      refine wl_yg HF rfl rfl rfl rfl rfl (yl_eqlI rfl (HF.ev rfl) (HF.ev rfl)) ?_; clear HF a; intro a HF
      refine wl_y rfl HF rfl rfl (yl_pick_t rfl (HF.ev rfl) (HF.ev rfl)) ?_; clear HF a; intro a HF
      refine wl_ne ?_
      refine HF.cases 42 rfl (fun cc6 HF1 => ?_) (fun cc6 HF1 => ?_)
      ·clear HF; have HF := HF1; clear HF1
       have dcc6 := eq_of_beq cc6
       refine wc_true HF rfl ?_
       refine wp_sr ?_
       refine wl_as HF rfl rfl rfl rfl rfl ?_; clear HF a; intro a HF
       refine wl_as HF rfl rfl rfl rfl rfl ?_; clear HF a; intro a HF
       refine wl_ne ?_
       refine wp_ret ?_
       refine ex_then_ret ?_
       refine bp_ret2 HF Tryz.results53 (HF.res rfl) (HF.res rfl) ?_
       have hfirst : s.data.toList.head? = some 48 := (head_byte (by omega)).2 (by omega)
       have h1k : Go.Lib.decFrom 0 (s.data.toList.take k) = some n := hd
       obtain ⟨d, hd1⟩ := dec_second hd (by omega)
       exact ⟨0, 1, .inr ⟨rfl, rfl, hfirst, s.get! 1, d, get_q (by omega), hd1⟩, by omega, rfl, HS.out.bel⟩
      ·clear HF; have HF := HF1; clear HF1
       have dcc6 := ne_of_beq_false cc6
       refine wc_false HF rfl ?_
       refine wp_skip ?_
       refine ex_then ?_
       refine wp_sr ?_
       refine wl_mv HF rfl rfl rfl rfl rfl ?_; clear HF a; intro a HF
       refine wl_mv HF rfl rfl rfl rfl rfl ?_; clear HF a; intro a HF
       refine wl_as HF rfl rfl rfl rfl rfl ?_; clear HF a; intro a HF
       refine wl_as HF rfl rfl rfl rfl rfl ?_; clear HF a; intro a HF
       refine wl_ne ?_
       refine wp_ret ?_
       refine bp_ret2 HF Tryz.results53 (HF.res rfl) (HF.res rfl) ?_
       exact ⟨n, k, .inl ⟨hk9, hk, hd, .inr (.inr ⟨s.get! k, get_q (by omega), digit_out (by omega)⟩), fun h => absurd ((head_byte (by omega)).1 h.2) (by omega)⟩, hn9, rfl, HS.out.bel⟩
     ·clear HF; have HF := HF1; clear HF1
      have dcc5 := of_decide_eq_false cc5
      refine wl_skip HF rfl rfl rfl rfl rfl rfl ?_; clear HF a; intro a HF
      refine wl_skip HF rfl rfl rfl rfl rfl rfl ?_; clear HF a; intro a HF
      refine wl_skip HF rfl rfl rfl rfl rfl rfl ?_; clear HF a; intro a HF
      refine wl_y rfl HF rfl rfl (yl_pick_f rfl (HF.ev rfl) (HF.ev rfl)) ?_; clear HF a; intro a HF
      refine wl_ne ?_
      refine wc_false HF rfl ?_
      refine wp_skip ?_
      refine ex_then ?_
      refine wp_sr ?_
      refine wl_mv HF rfl rfl rfl rfl rfl ?_; clear HF a; intro a HF
      refine wl_mv HF rfl rfl rfl rfl rfl ?_; clear HF a; intro a HF
      refine wl_as HF rfl rfl rfl rfl rfl ?_; clear HF a; intro a HF
      refine wl_as HF rfl rfl rfl rfl rfl ?_; clear HF a; intro a HF
      refine wl_ne ?_
      refine wp_ret ?_
      refine bp_ret2 HF Tryz.results53 (HF.res rfl) (HF.res rfl) ?_
      exact ⟨n, k, .inl ⟨hk9, hk, hd, .inr (.inr ⟨s.get! k, get_q (by omega), digit_out (by omega)⟩), fun h => absurd h.1 (by omega)⟩, hn9, rfl, HS.out.bel⟩
   ·clear HF; have HF := HF1; clear HF1
    have dcc3 := of_decide_eq_false cc3
    refine wl_skip HF rfl rfl rfl rfl rfl rfl ?_; clear HF a; intro a HF
    refine wl_skip HF rfl rfl rfl rfl rfl rfl ?_; clear HF a; intro a HF
    refine wl_skip HF rfl rfl rfl rfl rfl rfl ?_; clear HF a; intro a HF
    refine wl_skip HF rfl rfl rfl rfl rfl rfl ?_; clear HF a; intro a HF
    refine wl_y rfl HF rfl rfl (yl_pick_f rfl (HF.ev rfl) (HF.ev rfl)) ?_; clear HF a; intro a HF
    refine wl_ne ?_
    refine wc_false HF rfl ?_
    refine wp_exit ?_
    refine ex_then_exit ?_
    refine ex_then_exit ?_
    refine ex_block_hit ?_
    refine ex_then ?_
    refine wp_seq ?_
    refine wp_sr ?_
    refine wl_mv HF rfl rfl rfl rfl rfl ?_; clear HF a; intro a HF
    refine wl_y rfl HF rfl rfl (yl_gtrI rfl (HF.ev rfl) (HF.ev rfl)) ?_; clear HF a; intro a HF
    refine wl_mv HF rfl rfl rfl rfl rfl ?_; clear HF a; intro a HF
    refine HF.cases 38 rfl (fun cc7 HF1 => ?_) (fun cc7 HF1 => ?_)
    ·clear HF; have HF := HF1; clear HF1
     have dcc7 := of_decide_eq_true cc7
     refine wl_yg HF rfl rfl rfl rfl rfl (yl_move rfl (HF.ev rfl)) ?_; clear HF a; intro a HF
     refine wl_yg HF rfl rfl rfl rfl rfl (yl_indexS (i := 0) rfl (HF.ev rfl) (HF.ev rfl) (by kernel_rfl) (by omega) (by omega)) ?_; clear HF a; intro a HF
     refine wl_yg HF rfl rfl rfl rfl rfl (yl_eqlI rfl (HF.ev rfl) (HF.ev rfl)) ?_; clear HF a; intro a HF
     refine wl_y rfl HF rfl rfl (yl_pick_t rfl (HF.ev rfl) (HF.ev rfl)) ?_; clear HF a; intro a HF
     refine wl_ne ?_
     refine HF.cases 42 rfl (fun cc8 HF1 => ?_) (fun cc8 HF1 => ?_)
     ·clear HF; have HF := HF1; clear HF1
      have dcc8 := eq_of_beq cc8
      refine wc_true HF rfl ?_
      refine wp_sr ?_
      refine wl_as HF rfl rfl rfl rfl rfl ?_; clear HF a; intro a HF
      refine wl_as HF rfl rfl rfl rfl rfl ?_; clear HF a; intro a HF
      refine wl_ne ?_
      refine wp_ret ?_
      refine ex_then_ret ?_
      refine bp_ret2 HF Tryz.results53 (HF.res rfl) (HF.res rfl) ?_
      have hfirst : s.data.toList.head? = some 48 := (head_byte (by omega)).2 (by omega)
      have h1k : Go.Lib.decFrom 0 (s.data.toList.take k) = some n := hd
      obtain ⟨d, hd1⟩ := dec_second hd (by omega)
      exact ⟨0, 1, .inr ⟨rfl, rfl, hfirst, s.get! 1, d, get_q (by omega), hd1⟩, by omega, rfl, HS.out.bel⟩
     ·clear HF; have HF := HF1; clear HF1
      have dcc8 := ne_of_beq_false cc8
      refine wc_false HF rfl ?_
      refine wp_skip ?_
      refine ex_then ?_
      refine wp_sr ?_
      refine wl_mv HF rfl rfl rfl rfl rfl ?_; clear HF a; intro a HF
      refine wl_mv HF rfl rfl rfl rfl rfl ?_; clear HF a; intro a HF
      refine wl_as HF rfl rfl rfl rfl rfl ?_; clear HF a; intro a HF
      refine wl_as HF rfl rfl rfl rfl rfl ?_; clear HF a; intro a HF
      refine wl_ne ?_
      refine wp_ret ?_
      refine bp_ret2 HF Tryz.results53 (HF.res rfl) (HF.res rfl) ?_
      exact ⟨n, k, .inl ⟨hk9, hk, hd, .inr (.inr ⟨s.get! k, get_q (by omega), digit_out (by omega)⟩), fun h => absurd ((head_byte (by omega)).1 h.2) (by omega)⟩, hn9, rfl, HS.out.bel⟩
    ·clear HF; have HF := HF1; clear HF1
     have dcc7 := of_decide_eq_false cc7
     refine wl_skip HF rfl rfl rfl rfl rfl rfl ?_; clear HF a; intro a HF
     refine wl_skip HF rfl rfl rfl rfl rfl rfl ?_; clear HF a; intro a HF
     refine wl_skip HF rfl rfl rfl rfl rfl rfl ?_; clear HF a; intro a HF
     refine wl_y rfl HF rfl rfl (yl_pick_f rfl (HF.ev rfl) (HF.ev rfl)) ?_; clear HF a; intro a HF
     refine wl_ne ?_
     refine wc_false HF rfl ?_
     refine wp_skip ?_
     refine ex_then ?_
     refine wp_sr ?_
     refine wl_mv HF rfl rfl rfl rfl rfl ?_; clear HF a; intro a HF
     refine wl_mv HF rfl rfl rfl rfl rfl ?_; clear HF a; intro a HF
     refine wl_as HF rfl rfl rfl rfl rfl ?_; clear HF a; intro a HF
     refine wl_as HF rfl rfl rfl rfl rfl ?_; clear HF a; intro a HF
     refine wl_ne ?_
     refine wp_ret ?_
     refine bp_ret2 HF Tryz.results53 (HF.res rfl) (HF.res rfl) ?_
     exact ⟨n, k, .inl ⟨hk9, hk, hd, .inr (.inr ⟨s.get! k, get_q (by omega), digit_out (by omega)⟩), fun h => absurd h.1 (by omega)⟩, hn9, rfl, HS.out.bel⟩
  ·clear HF; have HF := HF1; clear HF1
   have dcc2 := of_decide_eq_false cc2
   refine wl_skip HF rfl rfl rfl rfl rfl rfl ?_; clear HF a; intro a HF
   refine wl_skip HF rfl rfl rfl rfl rfl rfl ?_; clear HF a; intro a HF
   refine wl_skip HF rfl rfl rfl rfl rfl rfl ?_; clear HF a; intro a HF
   refine wl_skip HF rfl rfl rfl rfl rfl rfl ?_; clear HF a; intro a HF
   refine wl_y rfl HF rfl rfl (yl_pick_f rfl (HF.ev rfl) (HF.ev rfl)) ?_; clear HF a; intro a HF
   refine wl_mv HF rfl rfl rfl rfl rfl ?_; clear HF a; intro a HF
   refine wl_skip HF rfl rfl rfl rfl rfl rfl ?_; clear HF a; intro a HF
   refine wl_skip HF rfl rfl rfl rfl rfl rfl ?_; clear HF a; intro a HF
   refine wl_skip HF rfl rfl rfl rfl rfl rfl ?_; clear HF a; intro a HF
   refine wl_skip HF rfl rfl rfl rfl rfl rfl ?_; clear HF a; intro a HF
   refine wl_y rfl HF rfl rfl (yl_pick_f rfl (HF.ev rfl) (HF.ev rfl)) ?_; clear HF a; intro a HF
   refine wl_ne ?_
   refine wc_false HF rfl ?_
   refine wp_exit ?_
   refine ex_then_exit ?_
   refine ex_then_exit ?_
   refine ex_block_hit ?_
   refine ex_then ?_
   refine wp_seq ?_
   refine wp_sr ?_
   refine wl_mv HF rfl rfl rfl rfl rfl ?_; clear HF a; intro a HF
   refine wl_y rfl HF rfl rfl (yl_gtrI rfl (HF.ev rfl) (HF.ev rfl)) ?_; clear HF a; intro a HF
   refine wl_mv HF rfl rfl rfl rfl rfl ?_; clear HF a; intro a HF
   refine HF.cases 38 rfl (fun cc9 HF1 => ?_) (fun cc9 HF1 => ?_)
   ·clear HF; have HF := HF1; clear HF1
    have dcc9 := of_decide_eq_true cc9
    refine wl_yg HF rfl rfl rfl rfl rfl (yl_move rfl (HF.ev rfl)) ?_; clear HF a; intro a HF
    refine wl_yg HF rfl rfl rfl rfl rfl (yl_indexS (i := 0) rfl (HF.ev rfl) (HF.ev rfl) (by kernel_rfl) (by omega) (by omega)) ?_; clear HF a; intro a HF
    refine wl_yg HF rfl rfl rfl rfl rfl (yl_eqlI rfl (HF.ev rfl) (HF.ev rfl)) ?_; clear HF a; intro a HF
    refine wl_y rfl HF rfl rfl (yl_pick_t rfl (HF.ev rfl) (HF.ev rfl)) ?_; clear HF a; intro a HF
    refine wl_ne ?_
    refine HF.cases 42 rfl (fun cc10 HF1 => ?_) (fun cc10 HF1 => ?_)
    ·clear HF; have HF := HF1; clear HF1
     have dcc10 := eq_of_beq cc10
     refine wc_true HF rfl ?_
     refine wp_sr ?_
     refine wl_as HF rfl rfl rfl rfl rfl ?_; clear HF a; intro a HF
     refine wl_as HF rfl rfl rfl rfl rfl ?_; clear HF a; intro a HF
     refine wl_ne ?_
     refine wp_ret ?_
     refine ex_then_ret ?_
     refine bp_ret2 HF Tryz.results53 (HF.res rfl) (HF.res rfl) ?_
     have hfirst : s.data.toList.head? = some 48 := (head_byte (by omega)).2 (by omega)
     have h1k : Go.Lib.decFrom 0 (s.data.toList.take k) = some n := hd
     obtain ⟨d, hd1⟩ := dec_second hd (by omega)
     exact ⟨0, 1, .inr ⟨rfl, rfl, hfirst, s.get! 1, d, get_q (by omega), hd1⟩, by omega, rfl, HS.out.bel⟩
    ·clear HF; have HF := HF1; clear HF1
     have dcc10 := ne_of_beq_false cc10
     refine wc_false HF rfl ?_
     refine wp_skip ?_
     refine ex_then ?_
     refine wp_sr ?_
     refine wl_mv HF rfl rfl rfl rfl rfl ?_; clear HF a; intro a HF
     refine wl_mv HF rfl rfl rfl rfl rfl ?_; clear HF a; intro a HF
     refine wl_as HF rfl rfl rfl rfl rfl ?_; clear HF a; intro a HF
     refine wl_as HF rfl rfl rfl rfl rfl ?_; clear HF a; intro a HF
     refine wl_ne ?_
     refine wp_ret ?_
     refine bp_ret2 HF Tryz.results53 (HF.res rfl) (HF.res rfl) ?_
     exact ⟨n, k, .inl ⟨hk9, hk, hd, .inr (.inl (by omega)), fun h => absurd ((head_byte (by omega)).1 h.2) (by omega)⟩, hn9, rfl, HS.out.bel⟩
   ·clear HF; have HF := HF1; clear HF1
    have dcc9 := of_decide_eq_false cc9
    refine wl_skip HF rfl rfl rfl rfl rfl rfl ?_; clear HF a; intro a HF
    refine wl_skip HF rfl rfl rfl rfl rfl rfl ?_; clear HF a; intro a HF
    refine wl_skip HF rfl rfl rfl rfl rfl rfl ?_; clear HF a; intro a HF
    refine wl_y rfl HF rfl rfl (yl_pick_f rfl (HF.ev rfl) (HF.ev rfl)) ?_; clear HF a; intro a HF
    refine wl_ne ?_
    refine wc_false HF rfl ?_
    refine wp_skip ?_
    refine ex_then ?_
    refine wp_sr ?_
    refine wl_mv HF rfl rfl rfl rfl rfl ?_; clear HF a; intro a HF
    refine wl_mv HF rfl rfl rfl rfl rfl ?_; clear HF a; intro a HF
    refine wl_as HF rfl rfl rfl rfl rfl ?_; clear HF a; intro a HF
    refine wl_as HF rfl rfl rfl rfl rfl ?_; clear HF a; intro a HF
    refine wl_ne ?_
    refine wp_ret ?_
    refine bp_ret2 HF Tryz.results53 (HF.res rfl) (HF.res rfl) ?_
    exact ⟨n, k, .inl ⟨hk9, hk, hd, .inr (.inl (by omega)), fun h => absurd h.1 (by omega)⟩, hn9, rfl, HS.out.bel⟩
 ·clear HF; have HF := HF1; clear HF1
  have dcc1 := of_decide_eq_false cc1
  refine wl_skip HF rfl rfl rfl rfl rfl rfl ?_; clear HF a; intro a HF
  refine wl_skip HF rfl rfl rfl rfl rfl rfl ?_; clear HF a; intro a HF
  refine wl_y rfl HF rfl rfl (yl_pick_f rfl (HF.ev rfl) (HF.ev rfl)) ?_; clear HF a; intro a HF
  refine wl_mv HF rfl rfl rfl rfl rfl ?_; clear HF a; intro a HF
  refine wl_skip HF rfl rfl rfl rfl rfl rfl ?_; clear HF a; intro a HF
  refine wl_skip HF rfl rfl rfl rfl rfl rfl ?_; clear HF a; intro a HF
  refine wl_skip HF rfl rfl rfl rfl rfl rfl ?_; clear HF a; intro a HF
  refine wl_skip HF rfl rfl rfl rfl rfl rfl ?_; clear HF a; intro a HF
  refine wl_y rfl HF rfl rfl (yl_pick_f rfl (HF.ev rfl) (HF.ev rfl)) ?_; clear HF a; intro a HF
  refine wl_mv HF rfl rfl rfl rfl rfl ?_; clear HF a; intro a HF
  refine wl_skip HF rfl rfl rfl rfl rfl rfl ?_; clear HF a; intro a HF
  refine wl_skip HF rfl rfl rfl rfl rfl rfl ?_; clear HF a; intro a HF
  refine wl_skip HF rfl rfl rfl rfl rfl rfl ?_; clear HF a; intro a HF
  refine wl_skip HF rfl rfl rfl rfl rfl rfl ?_; clear HF a; intro a HF
  refine wl_y rfl HF rfl rfl (yl_pick_f rfl (HF.ev rfl) (HF.ev rfl)) ?_; clear HF a; intro a HF
  refine wl_ne ?_
  refine wc_false HF rfl ?_
  refine wp_exit ?_
  refine ex_then_exit ?_
  refine ex_then_exit ?_
  refine ex_block_hit ?_
  refine ex_then ?_
  refine wp_seq ?_
  refine wp_sr ?_
  refine wl_mv HF rfl rfl rfl rfl rfl ?_; clear HF a; intro a HF
  refine wl_y rfl HF rfl rfl (yl_gtrI rfl (HF.ev rfl) (HF.ev rfl)) ?_; clear HF a; intro a HF
  refine wl_mv HF rfl rfl rfl rfl rfl ?_; clear HF a; intro a HF
  refine HF.cases 38 rfl (fun cc11 HF1 => ?_) (fun cc11 HF1 => ?_)
  ·clear HF; have HF := HF1; clear HF1
   have dcc11 := of_decide_eq_true cc11
   refine wl_yg HF rfl rfl rfl rfl rfl (yl_move rfl (HF.ev rfl)) ?_; clear HF a; intro a HF
   refine wl_yg HF rfl rfl rfl rfl rfl (yl_indexS (i := 0) rfl (HF.ev rfl) (HF.ev rfl) (by kernel_rfl) (by omega) (by omega)) ?_; clear HF a; intro a HF
   refine wl_yg HF rfl rfl rfl rfl rfl (yl_eqlI rfl (HF.ev rfl) (HF.ev rfl)) ?_; clear HF a; intro a HF
   refine wl_y rfl HF rfl rfl (yl_pick_t rfl (HF.ev rfl) (HF.ev rfl)) ?_; clear HF a; intro a HF
   refine wl_ne ?_
   refine HF.cases 42 rfl (fun cc12 HF1 => ?_) (fun cc12 HF1 => ?_)
   ·clear HF; have HF := HF1; clear HF1
    have dcc12 := eq_of_beq cc12
    refine wc_true HF rfl ?_
    refine wp_sr ?_
    refine wl_as HF rfl rfl rfl rfl rfl ?_; clear HF a; intro a HF
    refine wl_as HF rfl rfl rfl rfl rfl ?_; clear HF a; intro a HF
    refine wl_ne ?_
    refine wp_ret ?_
    refine ex_then_ret ?_
    refine bp_ret2 HF Tryz.results53 (HF.res rfl) (HF.res rfl) ?_
    have hfirst : s.data.toList.head? = some 48 := (head_byte (by omega)).2 (by omega)
    have h1k : Go.Lib.decFrom 0 (s.data.toList.take k) = some n := hd
    obtain ⟨d, hd1⟩ := dec_second hd (by omega)
    exact ⟨0, 1, .inr ⟨rfl, rfl, hfirst, s.get! 1, d, get_q (by omega), hd1⟩, by omega, rfl, HS.out.bel⟩
   ·clear HF; have HF := HF1; clear HF1
    have dcc12 := ne_of_beq_false cc12
    refine wc_false HF rfl ?_
    refine wp_skip ?_
    refine ex_then ?_
    refine wp_sr ?_
    refine wl_mv HF rfl rfl rfl rfl rfl ?_; clear HF a; intro a HF
    refine wl_mv HF rfl rfl rfl rfl rfl ?_; clear HF a; intro a HF
    refine wl_as HF rfl rfl rfl rfl rfl ?_; clear HF a; intro a HF
    refine wl_as HF rfl rfl rfl rfl rfl ?_; clear HF a; intro a HF
    refine wl_ne ?_
    refine wp_ret ?_
    refine bp_ret2 HF Tryz.results53 (HF.res rfl) (HF.res rfl) ?_
    exact ⟨n, k, .inl ⟨hk9, hk, hd, .inl (by omega), fun h => absurd ((head_byte (by omega)).1 h.2) (by omega)⟩, hn9, rfl, HS.out.bel⟩
  ·clear HF; have HF := HF1; clear HF1
   have dcc11 := of_decide_eq_false cc11
   refine wl_skip HF rfl rfl rfl rfl rfl rfl ?_; clear HF a; intro a HF
   refine wl_skip HF rfl rfl rfl rfl rfl rfl ?_; clear HF a; intro a HF
   refine wl_skip HF rfl rfl rfl rfl rfl rfl ?_; clear HF a; intro a HF
   refine wl_y rfl HF rfl rfl (yl_pick_f rfl (HF.ev rfl) (HF.ev rfl)) ?_; clear HF a; intro a HF
   refine wl_ne ?_
   refine wc_false HF rfl ?_
   refine wp_skip ?_
   refine ex_then ?_
   refine wp_sr ?_
   refine wl_mv HF rfl rfl rfl rfl rfl ?_; clear HF a; intro a HF
   refine wl_mv HF rfl rfl rfl rfl rfl ?_; clear HF a; intro a HF
   refine wl_as HF rfl rfl rfl rfl rfl ?_; clear HF a; intro a HF
   refine wl_as HF rfl rfl rfl rfl rfl ?_; clear HF a; intro a HF
   refine wl_ne ?_
   refine wp_ret ?_
   refine bp_ret2 HF Tryz.results53 (HF.res rfl) (HF.res rfl) ?_
   exact ⟨n, k, .inl ⟨hk9, hk, hd, .inl (by omega), fun h => absurd h.1 (by omega)⟩, hn9, rfl, HS.out.bel⟩

theorem specNumGet_any (s : ByteArray) (w0 : World) (hs : s.size ≤ 1099511627776) : Calls Tryz.prog 40 #[.string s] w0 fun e w' => ((∃ n : Nat, numG s = some n ∧ e = .returned (.tuple #[.int .i64 (n : Int), .bool true]) ∧ Below w0.heap.size w0 w') ∨ (numG s = none ∧ e = .returned (.tuple #[.int .i64 0, .bool false]) ∧ Below w0.heap.size w0 w')) := by
 have HS := Bx.mk (St.start w0)
 refine wc_enter Tryz.func40 rfl Tryz.ntmps40 [(0, .string s)] ⟨rfl, trivial⟩ rfl ?_; intro a HF
 refine wp_sr ?_
 refine wl_as HF rfl rfl rfl rfl rfl ?_; clear HF a; intro a HF
 refine wl_as HF rfl rfl rfl rfl rfl ?_; clear HF a; intro a HF
 refine wl_ne ?_
 refine wp_sr ?_
 refine wl_mv HF rfl rfl rfl rfl rfl ?_; clear HF a; intro a HF
 refine wl_call rfl HF rfl (enter_of Tryz.func53 (by kernel_rfl) rfl) (args := #[.string s]) rfl (l1Num_any s _ (by omega)) rfl rfl ?_
 rintro _ w1 ⟨n, k, hl1, hn9, rfl, hb⟩
 refine ⟨_, rfl, ?_⟩; replace HS := Bx.mk (HS.out.later hb); clear hb HF; clear a; intro a HF
 refine wl_mv HF rfl rfl rfl rfl rfl ?_; clear HF a; intro a HF
 refine wl_y rfl HF rfl rfl (yl_extract rfl (HF.ev rfl) rfl) ?_; clear HF a; intro a HF
 refine wl_y rfl HF rfl rfl (yl_extract rfl (HF.ev rfl) rfl) ?_; clear HF a; intro a HF
 refine wl_as HF rfl rfl rfl rfl rfl ?_; clear HF a; intro a HF
 refine wl_as HF rfl rfl rfl rfl rfl ?_; clear HF a; intro a HF
 refine wl_ne ?_
 refine wp_seq ?_
 refine wp_sr ?_
 refine wl_mv HF rfl rfl rfl rfl rfl ?_; clear HF a; intro a HF
 refine wl_y rfl HF rfl rfl (yl_eqlI rfl (HF.ev rfl) (HF.ev rfl)) ?_; clear HF a; intro a HF
 refine wl_mv HF rfl rfl rfl rfl rfl ?_; clear HF a; intro a HF
 refine HF.cases 13 rfl (fun cc1 HF1 => ?_) (fun cc1 HF1 => ?_)
 ·clear HF; have HF := HF1; clear HF1
  have dcc1 := eq_of_beq cc1
  refine wl_skip HF rfl rfl rfl rfl rfl rfl ?_; clear HF a; intro a HF
  refine wl_skip HF rfl rfl rfl rfl rfl rfl ?_; clear HF a; intro a HF
  refine wl_skip HF rfl rfl rfl rfl rfl rfl ?_; clear HF a; intro a HF
  refine wl_skip HF rfl rfl rfl rfl rfl rfl ?_; clear HF a; intro a HF
  refine wl_y rfl HF rfl rfl (yl_pick_t rfl (HF.ev rfl) (HF.ev rfl)) ?_; clear HF a; intro a HF
  refine wl_ne ?_
  refine wc_true HF rfl ?_
  refine wp_sr ?_
  refine wl_as HF rfl rfl rfl rfl rfl ?_; clear HF a; intro a HF
  refine wl_as HF rfl rfl rfl rfl rfl ?_; clear HF a; intro a HF
  refine wl_ne ?_
  refine wp_ret ?_
  refine ex_then_ret ?_
  refine bp_ret2 HF Tryz.results40 (HF.res rfl) (HF.res rfl) ?_
  exact .inr ⟨l1S_no hl1 (by omega), rfl, HS.out.bel⟩
 ·clear HF; have HF := HF1; clear HF1
  have dcc1 := ne_of_beq_false cc1
  refine wl_yg HF rfl rfl rfl rfl rfl (yl_move rfl (HF.ev rfl)) ?_; clear HF a; intro a HF
  refine wl_yg HF rfl rfl rfl rfl rfl (yl_move rfl (HF.ev rfl)) ?_; clear HF a; intro a HF
  refine wl_yg HF rfl rfl rfl rfl rfl (yl_lenS rfl (HF.ev rfl) (by kernel_rfl)) ?_; clear HF a; intro a HF
  refine wl_yg HF rfl rfl rfl rfl rfl (yl_neqI rfl (HF.ev rfl) (HF.ev rfl)) ?_; clear HF a; intro a HF
  refine wl_y rfl HF rfl rfl (yl_pick_f rfl (HF.ev rfl) (HF.ev rfl)) ?_; clear HF a; intro a HF
  refine wl_ne ?_
  refine HF.cases 18 rfl (fun cc2 HF1 => ?_) (fun cc2 HF1 => ?_)
  ·clear HF; have HF := HF1; clear HF1
   have dcc2 := bne_iff_ne.1 cc2
   refine wc_true HF rfl ?_
   refine wp_sr ?_
   refine wl_as HF rfl rfl rfl rfl rfl ?_; clear HF a; intro a HF
   refine wl_as HF rfl rfl rfl rfl rfl ?_; clear HF a; intro a HF
   refine wl_ne ?_
   refine wp_ret ?_
   refine ex_then_ret ?_
   refine bp_ret2 HF Tryz.results40 (HF.res rfl) (HF.res rfl) ?_
   exact .inr ⟨l1S_no hl1 (by omega), rfl, HS.out.bel⟩
  ·clear HF; have HF := HF1; clear HF1
   have dcc2 := bne_eq_false_iff_eq.1 cc2
   refine wc_false HF rfl ?_
   refine wp_skip ?_
   refine ex_then ?_
   refine wp_sr ?_
   refine wl_mv HF rfl rfl rfl rfl rfl ?_; clear HF a; intro a HF
   refine wl_as HF rfl rfl rfl rfl rfl ?_; clear HF a; intro a HF
   refine wl_as HF rfl rfl rfl rfl rfl ?_; clear HF a; intro a HF
   refine wl_ne ?_
   refine wp_ret ?_
   refine bp_ret2 HF Tryz.results40 (HF.res rfl) (HF.res rfl) ?_
   exact .inl ⟨n, l1S_yes hl1 (by omega) (by omega), rfl, HS.out.bel⟩

theorem implNumGet_any (s : ByteArray) (w0 : World) (hT : TabP w0) (hE : ErrP w0) : Calls Tryz.prog 21 #[.string s] w0 fun e w' => ((∃ n : Nat, numG s = some n ∧ e = .returned (.tuple #[.int .i64 (n : Int), .bool true]) ∧ Below w0.heap.size w0 w') ∨ (numG s = none ∧ e = .returned (.tuple #[.int .i64 0, .bool false]) ∧ Below w0.heap.size w0 w')) := by
 have HT := Bx.mk hT; clear hT
 have HE := Bx.mk hE; clear hE
 have HS := Bx.mk (St.start w0)
 refine wc_enter Tryz.func21 rfl Tryz.ntmps21 [(0, .string s)] ⟨rfl, trivial⟩ rfl ?_; intro a HF
 refine wp_sr ?_
 refine wl_as HF rfl rfl rfl rfl rfl ?_; clear HF a; intro a HF
 refine wl_as HF rfl rfl rfl rfl rfl ?_; clear HF a; intro a HF
 refine wl_ne ?_
 refine wp_seq ?_
 refine wp_sr ?_
 refine wl_mv HF rfl rfl rfl rfl rfl ?_; clear HF a; intro a HF
 refine wl_y rfl HF rfl rfl (yl_lenS rfl (HF.ev rfl) (by kernel_rfl)) ?_; clear HF a; intro a HF
 refine wl_y rfl HF rfl rfl (yl_gtrI rfl (HF.ev rfl) (HF.ev rfl)) ?_; clear HF a; intro a HF
 refine wl_ne ?_
 refine HF.cases 8 rfl (fun cc1 HF1 => ?_) (fun cc1 HF1 => ?_)
 ·clear HF; have HF := HF1; clear HF1
  have dcc1 := of_decide_eq_true cc1
  refine wc_true HF rfl ?_
  refine wp_sr ?_
  refine wl_as HF rfl rfl rfl rfl rfl ?_; clear HF a; intro a HF
  refine wl_as HF rfl rfl rfl rfl rfl ?_; clear HF a; intro a HF
  refine wl_ne ?_
  refine wp_ret ?_
  refine ex_then_ret ?_
  refine bp_ret2 HF Tryz.results21 (HF.res rfl) (HF.res rfl) ?_
  exact .inr ⟨numG_no fun m hm e => by have := decB_9 hm; rw [← e] at this; omega, rfl, HS.out.bel⟩
 ·clear HF; have HF := HF1; clear HF1
  have dcc1 := of_decide_eq_false cc1
  refine wc_false HF rfl ?_
  refine wp_skip ?_
  refine ex_then ?_
  refine wp_sr ?_
  refine wl_mv HF rfl rfl rfl rfl rfl ?_; clear HF a; intro a HF
  refine wl_call rfl HF rfl (enter_of Tryz.func36 (by kernel_rfl) rfl) (args := #[.string s]) rfl (atoi_ways s _ (by omega) (HE.out.below HS.out.bel)) rfl rfl ?_
  rintro _ w1 (⟨n, hat, rfl, hb⟩ | ⟨te, pe, hat, rfl, hb⟩)
  ·skip
   refine ⟨_, rfl, ?_⟩; replace HS := Bx.mk (HS.out.later hb); clear hb HF; clear a; intro a HF
   refine wl_mv HF rfl rfl rfl rfl rfl ?_; clear HF a; intro a HF
   refine wl_y rfl HF rfl rfl (yl_extract rfl (HF.ev rfl) rfl) ?_; clear HF a; intro a HF
   refine wl_y rfl HF rfl rfl (yl_extract rfl (HF.ev rfl) rfl) ?_; clear HF a; intro a HF
   refine wl_as HF rfl rfl rfl rfl rfl ?_; clear HF a; intro a HF
   refine wl_as HF rfl rfl rfl rfl rfl ?_; clear HF a; intro a HF
   refine wl_ne ?_
   refine wp_seq ?_
   refine wp_sr ?_
   refine wl_mv HF rfl rfl rfl rfl rfl ?_; clear HF a; intro a HF
   refine wl_y rfl HF rfl rfl (yl_neNil rfl (by kernel_rfl) (HF.ev rfl)) ?_; clear HF a; intro a HF
   refine wl_mv HF rfl rfl rfl rfl rfl ?_; clear HF a; intro a HF
   refine wl_yg HF rfl rfl rfl rfl rfl (yl_move rfl (HF.ev rfl)) ?_; clear HF a; intro a HF
   refine wl_callBg HF rfl rfl rfl rfl (enter_of Tryz.func15 (by kernel_rfl) rfl) (args := #[.int .i64 n]) rfl (v := .string (numB n)) (numPutI_any n _ (HT.out.below HS.out.bel)) rfl rfl HS.out ?_; clear HF HS a; intro w2 a HS HF; replace HS := Bx.mk HS
   refine wl_yg HF rfl rfl rfl rfl rfl (yl_move rfl (HF.ev rfl)) ?_; clear HF a; intro a HF
   refine wl_yg HF rfl rfl rfl rfl rfl (yl_neqS rfl (HF.ev rfl) (HF.ev rfl)) ?_; clear HF a; intro a HF
   refine wl_y rfl HF rfl rfl (yl_pick_f rfl (HF.ev rfl) (HF.ev rfl)) ?_; clear HF a; intro a HF
   refine wl_ne ?_
   refine HF.cases 21 rfl (fun cc2 HF1 => ?_) (fun cc2 HF1 => ?_)
   ·clear HF; have HF := HF1; clear HF1
    refine wc_true HF rfl ?_
    refine wp_sr ?_
    refine wl_as HF rfl rfl rfl rfl rfl ?_; clear HF a; intro a HF
    refine wl_as HF rfl rfl rfl rfl rfl ?_; clear HF a; intro a HF
    refine wl_ne ?_
    refine wp_ret ?_
    refine ex_then_ret ?_
    refine bp_ret2 HF Tryz.results21 (HF.res rfl) (HF.res rfl) ?_
    exact .inr ⟨numG_no fun m hm e => by rw [e, atoi_dec] at hat; obtain rfl := Option.some.inj hat; rw [numB_in (by omega) (by omega), Int.toNat_natCast, ← e] at cc2; simp at cc2, rfl, HS.out.bel⟩
   ·clear HF; have HF := HF1; clear HF1
    refine wc_false HF rfl ?_
    refine wp_skip ?_
    refine ex_then ?_
    refine wp_sr ?_
    refine wl_mv HF rfl rfl rfl rfl rfl ?_; clear HF a; intro a HF
    refine wl_as HF rfl rfl rfl rfl rfl ?_; clear HF a; intro a HF
    refine wl_as HF rfl rfl rfl rfl rfl ?_; clear HF a; intro a HF
    refine wl_ne ?_
    refine wp_ret ?_
    refine bp_ret2 HF Tryz.results21 (HF.res rfl) (HF.res rfl) ?_
    obtain ⟨m, rfl, hg⟩ := numG_yes hat (bytes_toList (by simpa using cc2))
    exact .inl ⟨m, hg, rfl, HS.out.bel⟩
  ·skip
   refine ⟨_, rfl, ?_⟩; replace HS := Bx.mk (HS.out.later hb); clear hb HF; clear a; intro a HF
   refine wl_mv HF rfl rfl rfl rfl rfl ?_; clear HF a; intro a HF
   refine wl_y rfl HF rfl rfl (yl_extract rfl (HF.ev rfl) rfl) ?_; clear HF a; intro a HF
   refine wl_y rfl HF rfl rfl (yl_extract rfl (HF.ev rfl) rfl) ?_; clear HF a; intro a HF
   refine wl_as HF rfl rfl rfl rfl rfl ?_; clear HF a; intro a HF
   refine wl_as HF rfl rfl rfl rfl rfl ?_; clear HF a; intro a HF
   refine wl_ne ?_
   refine wp_seq ?_
   refine wp_sr ?_
   refine wl_mv HF rfl rfl rfl rfl rfl ?_; clear HF a; intro a HF
   refine wl_y rfl HF rfl rfl (yl_neErr rfl (by kernel_rfl) (HF.ev rfl)) ?_; clear HF a; intro a HF
   refine wl_mv HF rfl rfl rfl rfl rfl ?_; clear HF a; intro a HF
   refine wl_skip HF rfl rfl rfl rfl rfl rfl ?_; clear HF a; intro a HF
   refine wl_skip HF rfl rfl rfl rfl rfl rfl ?_; clear HF a; intro a HF
   refine wl_skip HF rfl rfl rfl rfl rfl rfl ?_; clear HF a; intro a HF
   refine wl_skip HF rfl rfl rfl rfl rfl rfl ?_; clear HF a; intro a HF
   refine wl_y rfl HF rfl rfl (yl_pick_t rfl (HF.ev rfl) (HF.ev rfl)) ?_; clear HF a; intro a HF
   refine wl_ne ?_
   refine wc_true HF rfl ?_
   refine wp_sr ?_
   refine wl_as HF rfl rfl rfl rfl rfl ?_; clear HF a; intro a HF
   refine wl_as HF rfl rfl rfl rfl rfl ?_; clear HF a; intro a HF
   refine wl_ne ?_
   refine wp_ret ?_
   refine ex_then_ret ?_
   refine bp_ret2 HF Tryz.results21 (HF.res rfl) (HF.res rfl) ?_
   exact .inr ⟨numG_no fun m hm e => by rw [e, atoi_dec] at hat; exact absurd hat (by simp), rfl, HS.out.bel⟩

end Go.Proofs.YtnikdicehddehaaGreatDoor

/- Lines of a shell read: walked. -/
namespace Go.Proofs.YtnikdicehddehaaGreatDoor
set_option linter.unusedVariables false
set_option linter.unusedSimpArgs false
set_option maxHeartbeats 1000000
set_option maxRecDepth 100000
open Go.RowKit

theorem indexT_any (a0 : Option Addr) (n c0 : Nat) (xs : List ByteArray) (v : ByteArray) (w0 : World) (hl : xs.length ≤ 4294967296) (hR : Rd encS 1 w0 a0 n xs) : Calls Tryz.prog 50 #[.slice a0 n c0, .string v] w0 fun e w' => e = .returned (.int .i64 (idxB (fun k => v.toList == (xs.getD k ByteArray.empty).toList) xs.length 0)) ∧ Below w0.heap.size w0 w' := by
 obtain rfl := hR.len
 have hR0 := Bx.mk hR
 obtain ⟨g0, o0, r0⟩ := hR.opn; have R0 := Bx.mk r0; clear r0 hR
 have HS := Bx.mk (St.start w0)
 refine wc_enter Tryz.func50 rfl Tryz.ntmps50 [(0, .slice a0 xs.length c0), (1, .string v)] ⟨rfl, rfl, trivial⟩ rfl ?_; intro a HF
 refine wp_sr ?_
 refine wl_as HF rfl rfl rfl rfl rfl ?_; clear HF a; intro a HF
 refine wl_ne ?_
 refine wp_seq ?_
 refine wp_sr ?_
 refine wl_mv HF rfl rfl rfl rfl rfl ?_; clear HF a; intro a HF
 refine wl_y rfl HF rfl rfl (yl_lenL (e := 9) (size := 1) rfl (HF.ev rfl) (by kernel_rfl)) ?_; clear HF a; intro a HF
 refine wl_mv HF rfl rfl rfl rfl rfl ?_; clear HF a; intro a HF
 refine wl_ne ?_
 refine wp_block ?_
 refine wc_loop (ι := Nat) (fun k a w => (k ≤ xs.length ∧ idxB (fun k => v.toList == (xs.getD k ByteArray.empty).toList) xs.length 0 = idxB (fun k => v.toList == (xs.getD k ByteArray.empty).toList) xs.length k) ∧ Fr 19 a [(0, .slice a0 xs.length c0), (1, .string v), (7, .int .i64 (xs.length : Int)), (8, .int .i64 (k : Int))] ∧ St w0 ([]) w) (fun k => xs.length - k) 0 ⟨⟨Nat.zero_le _, rfl⟩, HF.less _ ⟨rfl, rfl, rfl, rfl, trivial⟩, HS.out⟩ ?_
 clear HF HS; clear a
 rintro k a w1 ⟨⟨hk, hf⟩, HF, HS⟩
 replace HS := Bx.mk HS
 refine wp_sr ?_
 refine wl_y rfl HF rfl rfl (yl_lssI rfl (HF.ev rfl) (HF.ev rfl)) ?_; clear HF a; intro a HF
 refine wl_ne ?_
 refine wp_seq ?_
 refine HF.cases 9 rfl (fun cc1 HF1 => ?_) (fun cc1 HF1 => ?_)
 ·clear HF; have HF := HF1; clear HF1
  have dcc1 := of_decide_eq_true cc1
  refine wc_true HF rfl ?_
  refine wp_skip ?_
  refine ex_then ?_
  refine wp_seq ?_
  refine wp_block ?_
  refine wp_sr ?_
  refine wl_mv HF rfl rfl rfl rfl rfl ?_; clear HF a; intro a HF
  refine wl_as HF rfl rfl rfl rfl rfl ?_; clear HF a; intro a HF
  refine wl_ne ?_
  refine wp_sr ?_
  refine wl_mv HF rfl rfl rfl rfl rfl ?_; clear HF a; intro a HF
  refine wl_mv HF rfl rfl rfl rfl rfl ?_; clear HF a; intro a HF
  refine wl_mv HF rfl rfl rfl rfl rfl ?_; clear HF a; intro a HF
  refine wl_y rfl HF rfl rfl (yl_indexAddrR (e := 9) (i := k) (size := 1) rfl (HF.ev rfl) (HF.ev rfl) (by kernel_rfl) rfl (by omega) (R0.out.ao k (by omega))) ?_; clear HF a; intro a HF
  refine wl_y rfl HF rfl rfl (yl_load (v := .string (xs.getD k ByteArray.empty)) rfl (HF.ev rfl) (R0.out.elem1 HS.out (get_getD (xs := xs) (j := k) (d := ByteArray.empty) (by omega)) rfl) (by kernel_rfl)) ?_; clear HF a; intro a HF
  refine wl_y rfl HF rfl rfl (yl_eqlS rfl (HF.ev rfl) (HF.ev rfl)) ?_; clear HF a; intro a HF
  refine wl_ne ?_
  refine HF.cases 16 rfl (fun cc2 HF1 => ?_) (fun cc2 HF1 => ?_)
  ·clear HF; have HF := HF1; clear HF1
   refine wc_true HF rfl ?_
   refine wp_sr ?_
   refine wl_mv HF rfl rfl rfl rfl rfl ?_; clear HF a; intro a HF
   refine wl_as HF rfl rfl rfl rfl rfl ?_; clear HF a; intro a HF
   refine wl_ne ?_
   refine wp_ret ?_
   refine ex_block_ret ?_
   refine ex_then_ret ?_
   refine ex_then_ret ?_
   refine ex_block_ret ?_
   refine ex_then_ret ?_
   refine bp_ret1 HF Tryz.results50 (HF.res rfl) ?_
   rw [idxB_lt (k := k) (by omega), if_pos cc2] at hf
   exact ⟨by rw [hf], HS.out.bel⟩
  ·clear HF; have HF := HF1; clear HF1
   refine wc_false HF rfl ?_
   refine wp_skip ?_
   refine ex_block ?_
   refine ex_then ?_
   refine wp_region_lit ?_
   refine wl_y rfl HF rfl rfl (yl_addI rfl (HF.ev rfl) (HF.ev rfl) (i64w (by omega))) ?_; clear HF a; intro a HF
   refine wl_mv HF rfl rfl rfl rfl rfl ?_; clear HF a; intro a HF
   refine wl_ne ?_
   rw [idxB_lt (k := k) (by omega), if_neg (by rw [cc2]; simp)] at hf
   exact ⟨k + 1, ⟨⟨by omega, hf⟩, HF.less _ ⟨rfl, rfl, rfl, rfl, trivial⟩, HS.out⟩, (by omega)⟩
 ·clear HF; have HF := HF1; clear HF1
  have dcc1 := of_decide_eq_false cc1
  refine wc_false HF rfl ?_
  refine wp_exit ?_
  refine ex_then_exit ?_
  refine ex_then_exit ?_
  refine ex_block_hit ?_
  refine ex_then ?_
  refine wp_sr ?_
  refine wl_as HF rfl rfl rfl rfl rfl ?_; clear HF a; intro a HF
  refine wl_ne ?_
  refine wp_ret ?_
  refine bp_ret1 HF Tryz.results50 (HF.res rfl) ?_
  rw [idxB_end (k := k) (by omega)] at hf
  exact ⟨by rw [hf], HS.out.bel⟩

theorem containsT_any (a0 : Option Addr) (n c0 : Nat) (xs : List ByteArray) (v : ByteArray) (w0 : World) (hl : xs.length ≤ 4294967296) (hR : Rd encS 1 w0 a0 n xs) : Calls Tryz.prog 35 #[.slice a0 n c0, .string v] w0 fun e w' => e = .returned (.bool (!allB (fun k => !(v.toList == (xs.getD k ByteArray.empty).toList)) xs.length)) ∧ Below w0.heap.size w0 w' := by
 obtain rfl := hR.len
 have hR0 := Bx.mk hR
 obtain ⟨g0, o0, r0⟩ := hR.opn; have R0 := Bx.mk r0; clear r0 hR
 have HS := Bx.mk (St.start w0)
 refine wc_enter Tryz.func35 rfl Tryz.ntmps35 [(0, .slice a0 xs.length c0), (1, .string v)] ⟨rfl, rfl, trivial⟩ rfl ?_; intro a HF
 refine wp_sr ?_
 refine wl_as HF rfl rfl rfl rfl rfl ?_; clear HF a; intro a HF
 refine wl_ne ?_
 refine wp_sr ?_
 refine wl_mv HF rfl rfl rfl rfl rfl ?_; clear HF a; intro a HF
 refine wl_mv HF rfl rfl rfl rfl rfl ?_; clear HF a; intro a HF
 refine wl_callB rfl HF rfl (enter_of Tryz.func50 (by kernel_rfl) rfl) (args := #[.slice a0 xs.length c0, .string v]) rfl (v := .int .i64 (idxB (fun k => v.toList == (xs.getD k ByteArray.empty).toList) xs.length 0)) (indexT_any a0 _ c0 xs v _ hl (hR0.out.below HS.out.bel)) rfl rfl HS.out ?_; clear HF HS a; intro w1 a HS HF; replace HS := Bx.mk HS
 refine wl_y rfl HF rfl rfl (yl_geqI rfl (HF.ev rfl) (HF.ev rfl)) ?_; clear HF a; intro a HF
 refine wl_as HF rfl rfl rfl rfl rfl ?_; clear HF a; intro a HF
 refine wl_ne ?_
 refine wp_ret ?_
 refine bp_ret1 HF Tryz.results35 (HF.res rfl) ?_
 exact ⟨by rw [← idxB_any], HS.out.bel⟩

theorem toL_comm (a b : ByteArray) : (a.toList == b.toList) = (b.toList == a.toList) := Bool.eq_iff_iff.2 ⟨fun h => by rw [beq_iff_eq] at h ⊢; exact h.symm, fun h => by rw [beq_iff_eq] at h ⊢; exact h.symm⟩
theorem allB_ex {p : Nat → Bool} : ∀ {n : Nat}, allB p n = false → ∃ j, j < n ∧ p j = false := fun {n} h => by
  by_cases hx : ∃ j, j < n ∧ p j = false
  · exact hx
  · have : allB p n = true := allB_mk fun j hj => by
      cases hp : p j with
      | true => rfl
      | false => exact absurd ⟨j, hj, hp⟩ hx
    rw [this] at h; cases h
theorem pieces_le (s : ByteArray) (c : UInt8) (k : Nat) : ((piecesB s c).getD k ByteArray.empty).size ≤ s.size := by
  have key : ∀ (l : List UInt8) (x : List UInt8), x ∈ splitL c l → x.length ≤ l.length := by
    intro l
    induction l with
    | nil => intro x hx; obtain rfl : x = [] := by simpa [splitL] using hx
             exact Nat.le_refl _
    | cons b t ih =>
      intro x hx
      by_cases hb : b = c
      · subst hb
        rw [splitL_eq] at hx
        rcases List.mem_cons.1 hx with rfl | hx
        · exact Nat.zero_le _
        · exact Nat.le_succ_of_le (ih x hx)
      · obtain ⟨y, r, hs⟩ := splitL_ne c t
        rw [splitL_cons t hb hs] at hx
        rcases List.mem_cons.1 hx with rfl | hx
        · have := ih y (by rw [hs]; exact List.mem_cons_self ..)
          simp only [List.length_cons]; omega
        · exact Nat.le_succ_of_le (ih x (by rw [hs]; exact List.mem_cons_of_mem _ hx))
  by_cases hk : k < (piecesB s c).length
  · have hm : (piecesB s c).getD k ByteArray.empty ∈ piecesB s c := by rw [List.getD_eq_getElem?_getD, List.getElem?_eq_getElem hk]; exact List.getElem_mem hk
    obtain ⟨l, hl, e⟩ := List.mem_map.1 hm
    have := key _ _ hl
    rw [← size_list] at this
    rw [← e, size_list]; exact this
  · rw [List.getD_eq_getElem?_getD, List.getElem?_eq_none (by omega)]; exact Nat.zero_le _
theorem pieces_many (s : ByteArray) (c : UInt8) : 1 ≤ (piecesB s c).length ∧ (piecesB s c).length ≤ s.size + 1 := by
  have h1 := pieces_len s c
  have h2 := List.count_le_length (a := c) (l := s.data.toList)
  have h3 := size_list s
  omega
theorem ok_zero (p t x : ByteArray) (a : Int) : (⟨0, p, t, a, x⟩ : OpD).ok = false := by
  unfold OpD.ok
  rw [show inB 0 1 7 = false from by decide]
  simp
theorem kindTo_step {s : ByteArray} {k : Nat} (h : 1 ≤ k) : kindTo s (k + 1) = if wordsL.getD k ByteArray.empty = s then k else kindTo s k := by
  obtain ⟨j, rfl⟩ : ∃ j, k = j + 1 := ⟨k - 1, by omega⟩
  rfl

theorem wordsOf_any (s : ByteArray) (w0 : World) (hM : MaxP w0) (hs : s.size ≤ 4000000000) : Calls Tryz.prog 20 #[.string s] w0 fun e w' => (∃ j, j < (piecesB s 32).length ∧ (((piecesB s 32).getD j E0).toList == (⟨#[]⟩ : ByteArray).toList) = true ∧ e = .returned (.slice none 0 0) ∧ Below w0.heap.size w0 w') ∨ ((∀ j, j < (piecesB s 32).length → (((piecesB s 32).getD j E0).toList == (⟨#[]⟩ : ByteArray).toList) = false) ∧ ∃ ao cp, e = .returned (.slice ao (piecesB s 32).length cp) ∧ St w0 [rowA encS 1 9 (.slice ao (piecesB s 32).length cp) (piecesB s 32)] w') := by
 have HM := Bx.mk hM; clear hM
 have HS := Bx.mk (St.start w0)
 refine wc_enter Tryz.func20 rfl Tryz.ntmps20 [(0, .string s)] ⟨rfl, trivial⟩ rfl ?_; intro a HF
 refine wp_sr ?_
 refine wl_as HF rfl rfl rfl rfl rfl ?_; clear HF a; intro a HF
 refine wl_ne ?_
 refine wp_sr ?_
 refine wl_mv HF rfl rfl rfl rfl rfl ?_; clear HF a; intro a HF
 refine wl_call rfl HF rfl (enter_of Tryz.func34 (by kernel_rfl) rfl) (args := #[.string s, .string (⟨#[32]⟩ : ByteArray)]) rfl (split_any s 32 _ (by omega) (HM.out.below HS.out.bel)) rfl rfl ?_
 rintro _ w1 ⟨ao1, cp1, rfl, hs⟩
 refine ⟨_, rfl, ?_⟩
 replace HS := Bx.mk (HS.out.add hs); clear hs HF; clear a; intro a HF
 replace HS : Bx (St w0 ([rowA encS 1 9 (.slice ao1 ((piecesB s 32).length) cp1) (piecesB s 32)]) _) := ⟨HS.out⟩
 refine wl_as HF rfl rfl rfl rfl rfl ?_; clear HF a; intro a HF
 refine wl_ne ?_
 refine wp_seq ?_
 refine wp_sr ?_
 refine wl_mv HF rfl rfl rfl rfl rfl ?_; clear HF a; intro a HF
 refine wl_callB rfl HF rfl (enter_of Tryz.func35 (by kernel_rfl) rfl) (args := #[.slice ao1 ((piecesB s 32).length) cp1, .string (⟨#[]⟩ : ByteArray)]) rfl (v := .bool (!allB (fun k => !((⟨#[]⟩ : ByteArray).toList == ((piecesB s 32).getD k ByteArray.empty).toList)) (piecesB s 32).length)) (containsT_any _ _ _ (piecesB s 32) _ _ (by have := pieces_many s 32; omega) (St.rdOf HS.out encS_len 0 rfl)) rfl rfl HS.out ?_; clear HF HS a; intro w2 a HS HF; replace HS := Bx.mk HS
 refine wl_ne ?_
 refine HF.cases 7 rfl (fun cc1 HF1 => ?_) (fun cc1 HF1 => ?_)
 ·clear HF; have HF := HF1; clear HF1
  refine wc_true HF rfl ?_
  refine wp_sr ?_
  refine wl_as HF rfl rfl rfl rfl rfl ?_; clear HF a; intro a HF
  refine wl_ne ?_
  refine wp_ret ?_
  refine ex_then_ret ?_
  refine bp_ret1 HF Tryz.results20 (HF.res rfl) ?_
  obtain ⟨j, hj, hp⟩ := allB_ex (show allB _ _ = false from by simpa using cc1)
  exact .inl ⟨j, hj, by rw [toL_comm]; simpa using hp, rfl, HS.out.bel⟩
 ·clear HF; have HF := HF1; clear HF1
  refine wc_false HF rfl ?_
  refine wp_skip ?_
  refine ex_then ?_
  refine wp_sr ?_
  refine wl_mv HF rfl rfl rfl rfl rfl ?_; clear HF a; intro a HF
  refine wl_as HF rfl rfl rfl rfl rfl ?_; clear HF a; intro a HF
  refine wl_ne ?_
  refine wp_ret ?_
  refine bp_ret1 HF Tryz.results20 (HF.res rfl) ?_
  replace HS : Bx (St w0 ([rowA encS 1 9 (.slice ao1 ((piecesB s 32).length) cp1) (piecesB s 32)]) _) := ⟨(HS.out).pick 0 rfl⟩
  have hall := show allB (fun k => !((⟨#[]⟩ : ByteArray).toList == ((piecesB s 32).getD k ByteArray.empty).toList)) (piecesB s 32).length = true from by simpa using cc1
  exact .inr ⟨fun j hj => by rw [toL_comm]; simpa using allB_at hall hj, _, _, rfl, HS.out⟩

theorem sh_short {ws : List ByteArray} (h : ws.length < 2) : shellF ws = none := by
  rcases opK_cases (ws.getD 0 E0) with hk | hk | hk | hk | hk | hk | hk | hk
  · exact sh0 hk
  · exact sh1l hk (by omega) (by omega)
  · exact sh1l hk (by omega) (by omega)
  · exact sh3l hk (by omega)
  · exact sh4l hk (by omega)
  · exact sh1l hk (by omega) (by omega)
  · exact sh6l hk (by omega) (by omega)
  · exact sh6l hk (by omega) (by omega)

set_option maxHeartbeats 4000000 in
theorem implShellOp_any (s : ByteArray) (bm : Nat) (es : Array MapEntry) (clock : Nat) (w0 : World) (hT : TabP w0) (hM : MaxP w0) (hE : ErrP w0) (hQ : MapQ bm es clock w0) (hs : s.size ≤ 4000000000) : Calls Tryz.prog 8 #[.string s] w0 fun e w' => (∃ o : OpD, shellF (piecesB s 32) = some o ∧ e = .returned (.tuple #[.agg #[.int .i64 o.fKind, .string o.fPath, .string o.fTo, .int .i64 o.fAt, .string o.fText], .bool true]) ∧ Below w0.heap.size w0 w') ∨ (shellF (piecesB s 32) = none ∧ e = .returned (.tuple #[.agg #[.int .i64 0, .string ByteArray.empty, .string ByteArray.empty, .int .i64 0, .string ByteArray.empty], .bool false]) ∧ Below w0.heap.size w0 w') := by
 have HT := Bx.mk hT; have HM := Bx.mk hM; have HE := Bx.mk hE; have HQ := Bx.mk hQ; clear hT hM hE hQ
 have HS := Bx.mk (St.start w0)
 refine wc_enter Tryz.func8 rfl Tryz.ntmps8 [(0, .string s)] ⟨rfl, trivial⟩ rfl ?_; intro a HF
 refine wp_sr ?_
 refine wl_alloc rfl HF rfl rfl rfl (Z := [.int .i64 0, .string ByteArray.empty, .string ByteArray.empty, .int .i64 0, .string ByteArray.empty]) (by kernel_rfl) rfl HS.out ?_; clear HF HS a; intro a w1 b1 HF HS; replace HS := Bx.mk HS
 refine wl_as HF rfl rfl rfl rfl rfl ?_; clear HF a; intro a HF
 refine wl_ne ?_
 refine wp_sr ?_
 refine wl_mv HF rfl rfl rfl rfl rfl ?_; clear HF a; intro a HF
 refine wl_call rfl HF rfl (enter_of Tryz.func20 (by kernel_rfl) rfl) (args := #[.string s]) rfl (wordsOf_any s _ (HM.out.below HS.out.bel) hs) rfl rfl ?_
 rintro _ w2 (⟨j, hj, he, rfl, hb⟩ | ⟨hne, ao, cp, rfl, hs1⟩)
 ·skip
  refine ⟨_, rfl, ?_⟩; replace HS := Bx.mk (HS.out.later hb); clear hb HF; clear a; intro a HF
  refine wl_as HF rfl rfl rfl rfl rfl ?_; clear HF a; intro a HF
  refine wl_ne ?_
  refine wp_seq ?_
  refine wp_sr ?_
  refine wl_mv HF rfl rfl rfl rfl rfl ?_; clear HF a; intro a HF
  refine wl_y rfl HF rfl rfl (yl_lenL (e := 9) (size := 1) rfl (HF.ev rfl) (by kernel_rfl)) ?_; clear HF a; intro a HF
  refine wl_y rfl HF rfl rfl (yl_lssI rfl (HF.ev rfl) (HF.ev rfl)) ?_; clear HF a; intro a HF
  refine wl_ne ?_
  replace HF := HF.know (k := 12) (c := true) rfl (by decide)
  refine wc_true HF rfl ?_
  refine wp_sr ?_
  refine wl_y rfl HF rfl rfl (yl_build HF rfl (ps := []) rfl (cs := #[.int .i64 0, .string ByteArray.empty, .string ByteArray.empty, .int .i64 0, .string ByteArray.empty]) (by kernel_rfl)) ?_; clear HF a; intro a HF
  refine wl_storeBox rfl HF rfl rfl (HF.ev rfl) (HF.ev rfl) HS.out 0 rfl (cells_lit [.int .i64 0, .string ByteArray.empty, .string ByteArray.empty, .int .i64 0, .string ByteArray.empty] rfl rfl) (by kernel_rfl) ?_; clear HS; intro w3 HS; replace HS := Bx.mk HS
  have HS : Bx (St w0 ([boxA b1 5 24 (.agg #[.int .i64 0, .string ByteArray.empty, .string ByteArray.empty, .int .i64 0, .string ByteArray.empty])]) _) := HS
  refine wl_as HF rfl rfl rfl rfl rfl ?_; clear HF a; intro a HF
  refine wl_ne ?_
  refine wp_ret ?_
  refine ex_then_ret ?_
  refine bp_ret2 HF Tryz.results8 (HF.resBox rfl (HS.out.box 0 rfl) (by kernel_rfl)) (HF.res rfl) ?_
  exact .inr ⟨sh_empty hj he, rfl, HS.out.bel⟩
 ·skip
  refine ⟨_, rfl, ?_⟩; replace HS := Bx.mk (HS.out.add hs1); clear hs1 HF; clear a; intro a HF
  have hz : ∀ k, ((piecesB s 32).getD k ByteArray.empty).size ≤ 4000000000 := fun k => Nat.le_trans (pieces_le s 32 k) hs; have hmany := pieces_many s 32; generalize hws : (piecesB s 32) = ws at HS HF hz hmany hne ⊢
  replace HS : Bx (St w0 ([rowA encS 1 9 (.slice ao ws.length cp) ws, boxA b1 5 24 (.agg #[.int .i64 0, .string ByteArray.empty, .string ByteArray.empty, .int .i64 0, .string ByteArray.empty])]) _) := ⟨HS.out⟩
  refine wl_as HF rfl rfl rfl rfl rfl ?_; clear HF a; intro a HF
  refine wl_ne ?_
  refine wp_seq ?_
  refine wp_sr ?_
  refine wl_mv HF rfl rfl rfl rfl rfl ?_; clear HF a; intro a HF
  refine wl_y rfl HF rfl rfl (yl_lenL (e := 9) (size := 1) rfl (HF.ev rfl) (by kernel_rfl)) ?_; clear HF a; intro a HF
  refine wl_y rfl HF rfl rfl (yl_lssI rfl (HF.ev rfl) (HF.ev rfl)) ?_; clear HF a; intro a HF
  refine wl_ne ?_
  refine HF.cases 12 rfl (fun cc1 HF1 => ?_) (fun cc1 HF1 => ?_)
  ·clear HF; have HF := HF1; clear HF1
   have dcc1 := of_decide_eq_true cc1
   refine wc_true HF rfl ?_
   refine wp_sr ?_
   refine wl_y rfl HF rfl rfl (yl_build HF rfl (ps := []) rfl (cs := #[.int .i64 0, .string ByteArray.empty, .string ByteArray.empty, .int .i64 0, .string ByteArray.empty]) (by kernel_rfl)) ?_; clear HF a; intro a HF
   refine wl_storeBox rfl HF rfl rfl (HF.ev rfl) (HF.ev rfl) HS.out 1 rfl (cells_lit [.int .i64 0, .string ByteArray.empty, .string ByteArray.empty, .int .i64 0, .string ByteArray.empty] rfl rfl) (by kernel_rfl) ?_; clear HS; intro w4 HS; replace HS := Bx.mk HS
   have HS : Bx (St w0 ([rowA encS 1 9 (.slice ao ws.length cp) ws, boxA b1 5 24 (.agg #[.int .i64 0, .string ByteArray.empty, .string ByteArray.empty, .int .i64 0, .string ByteArray.empty])]) _) := HS
   refine wl_as HF rfl rfl rfl rfl rfl ?_; clear HF a; intro a HF
   refine wl_ne ?_
   refine wp_ret ?_
   refine ex_then_ret ?_
   refine bp_ret2 HF Tryz.results8 (HF.resBox rfl (HS.out.box 1 rfl) (by kernel_rfl)) (HF.res rfl) ?_
   exact .inr ⟨sh_short (by omega), rfl, HS.out.bel⟩
  ·clear HF; have HF := HF1; clear HF1
   have dcc1 := of_decide_eq_false cc1
   refine wc_false HF rfl ?_
   refine wp_skip ?_
   refine ex_then ?_
   refine wp_seq ?_
   obtain ⟨g2, rfl, _, _, _, _⟩ := HS.out.rowOpen 0 rfl (by omega)
   refine wr_heldS (s := [rowA encS 1 9 (.slice (some ⟨g2, 0, none⟩) ws.length cp) ws, boxA b1 5 24 (.agg #[.int .i64 0, .string ByteArray.empty, .string ByteArray.empty, .int .i64 0, .string ByteArray.empty])]) (by kernel_rfl) (St.drew (HS.out)) ?_
   have HS2 := Bx.mk HS.out.drew; replace HS := Bx.mk (show St w0 ([rowA encS 1 9 (.slice (some ⟨g2, 0, none⟩) ws.length cp) ws, boxA b1 5 24 (.agg #[.int .i64 0, .string ByteArray.empty, .string ByteArray.empty, .int .i64 0, .string ByteArray.empty])]) _ from HS.out.drew)
   generalize World.drew _ = w5 at HS HS2 ⊢
   refine wh_y 0 rfl (by kernel_rfl) (by kernel_rfl) (by kernel_rfl) (fun _ _ _ h => h) rfl HF rfl rfl (fun _ HS => (yl_load (v := .map (some bm)) rfl rfl (HQ.out.below HS.bel).cell (by kernel_rfl))) HS.out ?_; clear HF a; intro a HF
   refine wh_y 1 rfl (by kernel_rfl) (by kernel_rfl) (by kernel_rfl) (fun _ _ _ h => h) rfl HF rfl rfl (fun _ HS => (yl_move rfl (HF.ev rfl))) HS.out ?_; clear HF a; intro a HF
   refine wh_y 2 rfl (by kernel_rfl) (by kernel_rfl) (by kernel_rfl) (fun _ _ _ h => h) rfl HF rfl rfl (fun _ HS => (yl_indexAddr (e := 9) (i := 0) (size := 1) rfl (HF.ev rfl) (HF.ev rfl) (by kernel_rfl) rfl (by omega))) HS.out ?_; clear HF a; intro a HF
   refine wh_y 3 rfl (by kernel_rfl) (by kernel_rfl) (by kernel_rfl) (fun _ _ _ h => h) rfl HF rfl rfl (fun _ HS => (yl_load (v := .string (ws.getD 0 ByteArray.empty)) rfl (HF.ev rfl) (HS.elem1 encS_len 0 rfl (get_getD (xs := ws) (j := 0) (d := ByteArray.empty) (by omega)) rfl) (by kernel_rfl))) HS.out ?_; clear HF a; intro a HF
   refine wh_y 4 rfl (by kernel_rfl) (by kernel_rfl) (by kernel_rfl) (fun _ _ _ h => h) rfl HF rfl rfl (fun _ HS => (yl_lookup rfl (HF.ev rfl) (HF.ev rfl) ((HQ.out.below HS.bel).look _ (Nat.le_trans (hz 0) (by decide))))) HS.out ?_; clear HF a; intro a HF
   refine wh_y 5 rfl (by kernel_rfl) (by kernel_rfl) (by kernel_rfl) (fun _ _ _ h => h) rfl HF rfl rfl (fun _ HS => (yl_move rfl (HF.ev rfl))) HS.out ?_; clear HF a; intro a HF
   refine wh_y 6 rfl (by kernel_rfl) (by kernel_rfl) (by kernel_rfl) (fun _ _ _ h => h) rfl HF rfl rfl (fun _ HS => (yl_indexAddr (e := 9) (i := 1) (size := 1) rfl (HF.ev rfl) (HF.ev rfl) (by kernel_rfl) rfl (by omega))) HS.out ?_; clear HF a; intro a HF
   refine wh_y 7 rfl (by kernel_rfl) (by kernel_rfl) (by kernel_rfl) (fun _ _ _ h => h) rfl HF rfl rfl (fun _ HS => (yl_load (v := .string (ws.getD 1 ByteArray.empty)) rfl (HF.ev rfl) (HS.elem1 encS_len 0 rfl (get_getD (xs := ws) (j := 1) (d := ByteArray.empty) (by omega)) rfl) (by kernel_rfl))) HS.out ?_; clear HF a; intro a HF
   refine wh_y 8 rfl (by kernel_rfl) (by kernel_rfl) (by kernel_rfl) (fun _ _ _ h => h) rfl HF rfl rfl (fun _ HS => (yl_build HF rfl (ps := [(0, .int .i64 (opK (ws.getD 0 ByteArray.empty))), (1, .string (ws.getD 1 ByteArray.empty))]) rfl (cs := #[.int .i64 (opK (ws.getD 0 ByteArray.empty)), .string (ws.getD 1 ByteArray.empty), .string ByteArray.empty, .int .i64 0, .string ByteArray.empty]) (by kernel_rfl))) HS.out ?_; clear HF a; intro a HF
   refine wh_one 9 (by kernel_rfl) ?_
   refine wo_alloc rfl rfl HF rfl rfl rfl (Z := [.int .i64 0, .string ByteArray.empty, .string ByteArray.empty, .int .i64 0, .string ByteArray.empty]) (by kernel_rfl) rfl HS2.out HS.out ?_; clear HF HS HS2 a; intro a w6 b3 HF HS2 HS; replace HS := Bx.mk HS; replace HS2 := Bx.mk HS2; refine ⟨HS.out, ?_⟩
   refine wh_one 10 (by kernel_rfl) ?_
   refine wo_storeBox rfl rfl rfl rfl (HF.ev rfl) (HF.ev rfl) HS2.out 0 rfl (cells_lit [.int .i64 (opK (ws.getD 0 ByteArray.empty)), .string (ws.getD 1 ByteArray.empty), .string ByteArray.empty, .int .i64 0, .string ByteArray.empty] rfl rfl) (by kernel_rfl) ?_
   clear HS HS2; intro w7 HS2; replace HS2 : Bx (St w0 ([boxA b3 5 24 (.agg #[.int .i64 (opK (ws.getD 0 ByteArray.empty)), .string (ws.getD 1 ByteArray.empty), .string ByteArray.empty, .int .i64 0, .string ByteArray.empty]), rowA encS 1 9 (.slice (some ⟨g2, 0, none⟩) ws.length cp) ws, boxA b1 5 24 (.agg #[.int .i64 0, .string ByteArray.empty, .string ByteArray.empty, .int .i64 0, .string ByteArray.empty])]) _) := ⟨HS2⟩
   have HS : Bx (St w0 ([rowA encS 1 9 (.slice (some ⟨g2, 0, none⟩) ws.length cp) ws, boxA b1 5 24 (.agg #[.int .i64 0, .string ByteArray.empty, .string ByteArray.empty, .int .i64 0, .string ByteArray.empty])]) _) := ⟨(HS2.out.erase 0)⟩; refine ⟨HS.out, ?_⟩
   refine wh_y 11 rfl (by kernel_rfl) (by kernel_rfl) (by kernel_rfl) (fun _ _ _ h => h) rfl HF rfl rfl (fun _ HS => (yl_assign rfl (HF.ev rfl))) HS.out ?_; clear HF a; intro a HF
   refine wh_done (by kernel_rfl) ?_
   replace HS := HS2; clear HS2
   refine ex_then ?_
   refine wp_seq ?_
   generalize hkd : opK (ws.getD 0 ByteArray.empty) = kd at HS HF
   rcases (show kd = 0 ∨ kd = 1 ∨ kd = 2 ∨ kd = 3 ∨ kd = 4 ∨ kd = 5 ∨ kd = 6 ∨ kd = 7 from hkd ▸ opK_cases _) with rfl | rfl | rfl | rfl | rfl | rfl | rfl | rfl
   ·skip
    refine wp_region_lit ?_
    refine wl_as HF rfl rfl rfl rfl rfl ?_; clear HF a; intro a HF
    refine wl_ne ?_
    refine wp_seq ?_
    refine wp_sr ?_
    refine wl_y rfl HF rfl rfl (yl_fieldAddr (j := 0) rfl (HF.ev rfl) (by kernel_rfl)) ?_; clear HF a; intro a HF
    refine wl_y rfl HF rfl rfl (yl_load (v := .int .i64 0) rfl (HF.ev rfl) (((HS.out.box 0 rfl).cell 0).trans rfl) (by kernel_rfl)) ?_; clear HF a; intro a HF
    refine wl_ne ?_
    refine wp_block ?_
    refine wp_sr ?_
    refine wl_y rfl HF rfl rfl (yl_eqlI rfl (HF.ev rfl) (HF.ev rfl)) ?_; clear HF a; intro a HF
    refine wl_as HF rfl rfl rfl rfl rfl ?_; clear HF a; intro a HF
    refine wl_ne ?_
    replace HF := HF.know (k := 25) (c := false) rfl (by decide)
    refine wc_false HF rfl ?_
    refine wp_seq ?_
    refine wp_sr ?_
    refine wl_y rfl HF rfl rfl (yl_eqlI rfl (HF.ev rfl) (HF.ev rfl)) ?_; clear HF a; intro a HF
    refine wl_as HF rfl rfl rfl rfl rfl ?_; clear HF a; intro a HF
    refine wl_ne ?_
    replace HF := HF.know (k := 27) (c := false) rfl (by decide)
    refine wc_false HF rfl ?_
    refine wp_sr ?_
    refine wl_y rfl HF rfl rfl (yl_eqlI rfl (HF.ev rfl) (HF.ev rfl)) ?_; clear HF a; intro a HF
    refine wl_as HF rfl rfl rfl rfl rfl ?_; clear HF a; intro a HF
    refine wl_ne ?_
    replace HF := HF.know (k := 27) (c := false) rfl (by decide)
    refine wc_false HF rfl ?_
    refine wp_region_lit ?_
    refine wl_y rfl HF rfl rfl (yl_eqlI rfl (HF.ev rfl) (HF.ev rfl)) ?_; clear HF a; intro a HF
    refine wl_as HF rfl rfl rfl rfl rfl ?_; clear HF a; intro a HF
    refine wl_ne ?_
    replace HF := HF.know (k := 27) (c := false) rfl (by decide)
    refine wc_false HF rfl ?_
    refine wp_skip ?_
    refine ex_block ?_
    refine ex_then ?_
    refine wp_seq ?_
    refine wp_sr ?_
    refine wl_mv HF rfl rfl rfl rfl rfl ?_; clear HF a; intro a HF
    refine wl_y rfl HF rfl rfl (yl_lenL (e := 9) (size := 1) rfl (HF.ev rfl) (by kernel_rfl)) ?_; clear HF a; intro a HF
    refine wl_mv HF rfl rfl rfl rfl rfl ?_; clear HF a; intro a HF
    refine wl_y rfl HF rfl rfl (yl_neqI rfl (HF.ev rfl) (HF.ev rfl)) ?_; clear HF a; intro a HF
    refine wl_ne ?_
    refine HF.cases 34 rfl (fun cc2 HF1 => ?_) (fun cc2 HF1 => ?_)
    ·clear HF; have HF := HF1; clear HF1
     have dcc2 := bne_iff_ne.1 cc2
     refine wc_true HF rfl ?_
     refine wp_sr ?_
     refine wl_y rfl HF rfl rfl (yl_build HF rfl (ps := []) rfl (cs := #[.int .i64 0, .string ByteArray.empty, .string ByteArray.empty, .int .i64 0, .string ByteArray.empty]) (by kernel_rfl)) ?_; clear HF a; intro a HF
     refine wl_storeBox rfl HF rfl rfl (HF.ev rfl) (HF.ev rfl) HS.out 2 rfl (cells_lit [.int .i64 0, .string ByteArray.empty, .string ByteArray.empty, .int .i64 0, .string ByteArray.empty] rfl rfl) (by kernel_rfl) ?_; clear HS; intro w8 HS; replace HS := Bx.mk HS
     have HS : Bx (St w0 ([boxA b3 5 24 (.agg #[.int .i64 0, .string (ws.getD 1 ByteArray.empty), .string ByteArray.empty, .int .i64 0, .string ByteArray.empty]), rowA encS 1 9 (.slice (some ⟨g2, 0, none⟩) ws.length cp) ws, boxA b1 5 24 (.agg #[.int .i64 0, .string ByteArray.empty, .string ByteArray.empty, .int .i64 0, .string ByteArray.empty])]) _) := HS
     refine wl_as HF rfl rfl rfl rfl rfl ?_; clear HF a; intro a HF
     refine wl_ne ?_
     refine wp_ret ?_
     refine ex_then_ret ?_
     refine bp_ret2 HF Tryz.results8 (HF.resBox rfl (HS.out.box 2 rfl) (by kernel_rfl)) (HF.res rfl) ?_
     exact .inr ⟨sh0 hkd, rfl, HS.out.bel⟩
    ·clear HF; have HF := HF1; clear HF1
     have dcc2 := bne_eq_false_iff_eq.1 cc2
     refine wc_false HF rfl ?_
     refine wp_skip ?_
     refine ex_then ?_
     refine wp_seq ?_
     refine wp_sr ?_
     refine wl_y rfl HF rfl rfl (yl_fieldAddr (j := 0) rfl (HF.ev rfl) (by kernel_rfl)) ?_; clear HF a; intro a HF
     refine wl_y rfl HF rfl rfl (yl_load (v := .int .i64 0) rfl (HF.ev rfl) (((HS.out.box 0 rfl).cell 0).trans rfl) (by kernel_rfl)) ?_; clear HF a; intro a HF
     refine wl_ne ?_
     refine wp_block ?_
     refine wp_sr ?_
     refine wl_y rfl HF rfl rfl (yl_eqlI rfl (HF.ev rfl) (HF.ev rfl)) ?_; clear HF a; intro a HF
     refine wl_as HF rfl rfl rfl rfl rfl ?_; clear HF a; intro a HF
     refine wl_ne ?_
     replace HF := HF.know (k := 38) (c := false) rfl (by decide)
     refine wc_false HF rfl ?_
     refine wp_sr ?_
     refine wl_y rfl HF rfl rfl (yl_eqlI rfl (HF.ev rfl) (HF.ev rfl)) ?_; clear HF a; intro a HF
     refine wl_as HF rfl rfl rfl rfl rfl ?_; clear HF a; intro a HF
     refine wl_ne ?_
     replace HF := HF.know (k := 52) (c := false) rfl (by decide)
     refine wc_false HF rfl ?_
     refine wp_seq ?_
     refine wp_sr ?_
     refine wl_y rfl HF rfl rfl (yl_eqlI rfl (HF.ev rfl) (HF.ev rfl)) ?_; clear HF a; intro a HF
     refine wl_as HF rfl rfl rfl rfl rfl ?_; clear HF a; intro a HF
     refine wl_ne ?_
     replace HF := HF.know (k := 62) (c := false) rfl (by decide)
     refine wc_false HF rfl ?_
     refine wp_region_lit ?_
     refine wl_y rfl HF rfl rfl (yl_eqlI rfl (HF.ev rfl) (HF.ev rfl)) ?_; clear HF a; intro a HF
     refine wl_as HF rfl rfl rfl rfl rfl ?_; clear HF a; intro a HF
     refine wl_ne ?_
     replace HF := HF.know (k := 62) (c := false) rfl (by decide)
     refine wc_false HF rfl ?_
     refine wp_skip ?_
     refine ex_block ?_
     refine ex_then ?_
     refine wp_seq ?_
     refine wp_sr ?_
     refine wl_mv HF rfl rfl rfl rfl rfl ?_; clear HF a; intro a HF
     refine wl_y rfl HF rfl rfl (yl_not rfl (HF.ev rfl)) ?_; clear HF a; intro a HF
     refine wl_mv HF rfl rfl rfl rfl rfl ?_; clear HF a; intro a HF
     refine wl_yg HF rfl rfl rfl rfl rfl (yl_loadR (cs := [.int .i64 0, .string (ws.getD 1 ByteArray.empty), .string ByteArray.empty, .int .i64 0, .string ByteArray.empty]) rfl (HF.ev rfl) ((HS.out.box 0 rfl).sub 0 5) (by kernel_rfl)) ?_; clear HF a; intro a HF
     refine wl_callBg HF rfl rfl rfl rfl (enter_of Tryz.func11 (by kernel_rfl) rfl) (args := #[.agg #[.int .i64 0, .string (ws.getD 1 ByteArray.empty), .string ByteArray.empty, .int .i64 0, .string ByteArray.empty]]) rfl (v := .bool ((⟨0, (ws.getD 1 ByteArray.empty), ByteArray.empty, 0, ByteArray.empty⟩ : OpD).ok)) (implOpOk_any (⟨0, (ws.getD 1 ByteArray.empty), ByteArray.empty, 0, ByteArray.empty⟩ : OpD) _ (HM.out.below HS.out.bel) (by first | exact hz _ | exact Nat.zero_le _) (by first | exact hz _ | exact Nat.zero_le _) (by first | exact hz _ | exact Nat.zero_le _)) rfl rfl HS.out ?_; clear HF HS a; intro w9 a HS HF; replace HS := Bx.mk HS
     refine wl_yg HF rfl rfl rfl rfl rfl (yl_not rfl (HF.ev rfl)) ?_; clear HF a; intro a HF
     refine wl_y rfl HF rfl rfl (yl_pick_f rfl (HF.ev rfl) (HF.ev rfl)) ?_; clear HF a; intro a HF
     refine wl_ne ?_
     refine HF.cases 75 rfl (fun cc3 HF1 => ?_) (fun cc3 HF1 => ?_)
     ·clear HF; have HF := HF1; clear HF1
      refine wc_true HF rfl ?_
      refine wp_sr ?_
      refine wl_y rfl HF rfl rfl (yl_build HF rfl (ps := []) rfl (cs := #[.int .i64 0, .string ByteArray.empty, .string ByteArray.empty, .int .i64 0, .string ByteArray.empty]) (by kernel_rfl)) ?_; clear HF a; intro a HF
      refine wl_storeBox rfl HF rfl rfl (HF.ev rfl) (HF.ev rfl) HS.out 2 rfl (cells_lit [.int .i64 0, .string ByteArray.empty, .string ByteArray.empty, .int .i64 0, .string ByteArray.empty] rfl rfl) (by kernel_rfl) ?_; clear HS; intro w10 HS; replace HS := Bx.mk HS
      have HS : Bx (St w0 ([boxA b3 5 24 (.agg #[.int .i64 0, .string (ws.getD 1 ByteArray.empty), .string ByteArray.empty, .int .i64 0, .string ByteArray.empty]), rowA encS 1 9 (.slice (some ⟨g2, 0, none⟩) ws.length cp) ws, boxA b1 5 24 (.agg #[.int .i64 0, .string ByteArray.empty, .string ByteArray.empty, .int .i64 0, .string ByteArray.empty])]) _) := HS
      refine wl_as HF rfl rfl rfl rfl rfl ?_; clear HF a; intro a HF
      refine wl_ne ?_
      refine wp_ret ?_
      refine ex_then_ret ?_
      refine bp_ret2 HF Tryz.results8 (HF.resBox rfl (HS.out.box 2 rfl) (by kernel_rfl)) (HF.res rfl) ?_
      exact .inr ⟨sh0 hkd, rfl, HS.out.bel⟩
     ·clear HF; have HF := HF1; clear HF1
      refine wc_false HF rfl ?_
      refine wp_skip ?_
      refine ex_then ?_
      refine wp_sr ?_
      refine wl_y rfl HF rfl rfl (yl_loadR (cs := [.int .i64 0, .string (ws.getD 1 ByteArray.empty), .string ByteArray.empty, .int .i64 0, .string ByteArray.empty]) rfl (HF.ev rfl) ((HS.out.box 0 rfl).sub 0 5) (by kernel_rfl)) ?_; clear HF a; intro a HF
      refine wl_storeBox rfl HF rfl rfl (HF.ev rfl) (HF.ev rfl) HS.out 2 rfl (cells_lit [.int .i64 0, .string (ws.getD 1 ByteArray.empty), .string ByteArray.empty, .int .i64 0, .string ByteArray.empty] rfl rfl) (by kernel_rfl) ?_; clear HS; intro w11 HS; replace HS := Bx.mk HS
      have HS : Bx (St w0 ([boxA b3 5 24 (.agg #[.int .i64 0, .string (ws.getD 1 ByteArray.empty), .string ByteArray.empty, .int .i64 0, .string ByteArray.empty]), rowA encS 1 9 (.slice (some ⟨g2, 0, none⟩) ws.length cp) ws, boxA b1 5 24 (.agg #[.int .i64 0, .string (ws.getD 1 ByteArray.empty), .string ByteArray.empty, .int .i64 0, .string ByteArray.empty])]) _) := HS
      refine wl_as HF rfl rfl rfl rfl rfl ?_; clear HF a; intro a HF
      refine wl_ne ?_
      refine wp_ret ?_
      refine bp_ret2 HF Tryz.results8 (HF.resBox rfl (HS.out.box 2 rfl) (by kernel_rfl)) (HF.res rfl) ?_
      exact absurd (ok_zero _ _ _ _) (by rw [show (⟨0, (ws.getD 1 ByteArray.empty), ByteArray.empty, 0, ByteArray.empty⟩ : OpD).ok = true from by simpa using cc3]; simp)
   ·skip
    refine wp_region_lit ?_
    refine wl_as HF rfl rfl rfl rfl rfl ?_; clear HF a; intro a HF
    refine wl_ne ?_
    refine wp_seq ?_
    refine wp_sr ?_
    refine wl_y rfl HF rfl rfl (yl_fieldAddr (j := 0) rfl (HF.ev rfl) (by kernel_rfl)) ?_; clear HF a; intro a HF
    refine wl_y rfl HF rfl rfl (yl_load (v := .int .i64 1) rfl (HF.ev rfl) (((HS.out.box 0 rfl).cell 0).trans rfl) (by kernel_rfl)) ?_; clear HF a; intro a HF
    refine wl_ne ?_
    refine wp_block ?_
    refine wp_sr ?_
    refine wl_y rfl HF rfl rfl (yl_eqlI rfl (HF.ev rfl) (HF.ev rfl)) ?_; clear HF a; intro a HF
    refine wl_as HF rfl rfl rfl rfl rfl ?_; clear HF a; intro a HF
    refine wl_ne ?_
    replace HF := HF.know (k := 25) (c := false) rfl (by decide)
    refine wc_false HF rfl ?_
    refine wp_seq ?_
    refine wp_sr ?_
    refine wl_y rfl HF rfl rfl (yl_eqlI rfl (HF.ev rfl) (HF.ev rfl)) ?_; clear HF a; intro a HF
    refine wl_as HF rfl rfl rfl rfl rfl ?_; clear HF a; intro a HF
    refine wl_ne ?_
    replace HF := HF.know (k := 27) (c := false) rfl (by decide)
    refine wc_false HF rfl ?_
    refine wp_sr ?_
    refine wl_y rfl HF rfl rfl (yl_eqlI rfl (HF.ev rfl) (HF.ev rfl)) ?_; clear HF a; intro a HF
    refine wl_as HF rfl rfl rfl rfl rfl ?_; clear HF a; intro a HF
    refine wl_ne ?_
    replace HF := HF.know (k := 27) (c := false) rfl (by decide)
    refine wc_false HF rfl ?_
    refine wp_region_lit ?_
    refine wl_y rfl HF rfl rfl (yl_eqlI rfl (HF.ev rfl) (HF.ev rfl)) ?_; clear HF a; intro a HF
    refine wl_as HF rfl rfl rfl rfl rfl ?_; clear HF a; intro a HF
    refine wl_ne ?_
    replace HF := HF.know (k := 27) (c := false) rfl (by decide)
    refine wc_false HF rfl ?_
    refine wp_skip ?_
    refine ex_block ?_
    refine ex_then ?_
    refine wp_seq ?_
    refine wp_sr ?_
    refine wl_mv HF rfl rfl rfl rfl rfl ?_; clear HF a; intro a HF
    refine wl_y rfl HF rfl rfl (yl_lenL (e := 9) (size := 1) rfl (HF.ev rfl) (by kernel_rfl)) ?_; clear HF a; intro a HF
    refine wl_mv HF rfl rfl rfl rfl rfl ?_; clear HF a; intro a HF
    refine wl_y rfl HF rfl rfl (yl_neqI rfl (HF.ev rfl) (HF.ev rfl)) ?_; clear HF a; intro a HF
    refine wl_ne ?_
    refine HF.cases 34 rfl (fun cc4 HF1 => ?_) (fun cc4 HF1 => ?_)
    ·clear HF; have HF := HF1; clear HF1
     have dcc4 := bne_iff_ne.1 cc4
     refine wc_true HF rfl ?_
     refine wp_sr ?_
     refine wl_y rfl HF rfl rfl (yl_build HF rfl (ps := []) rfl (cs := #[.int .i64 0, .string ByteArray.empty, .string ByteArray.empty, .int .i64 0, .string ByteArray.empty]) (by kernel_rfl)) ?_; clear HF a; intro a HF
     refine wl_storeBox rfl HF rfl rfl (HF.ev rfl) (HF.ev rfl) HS.out 2 rfl (cells_lit [.int .i64 0, .string ByteArray.empty, .string ByteArray.empty, .int .i64 0, .string ByteArray.empty] rfl rfl) (by kernel_rfl) ?_; clear HS; intro w12 HS; replace HS := Bx.mk HS
     have HS : Bx (St w0 ([boxA b3 5 24 (.agg #[.int .i64 1, .string (ws.getD 1 ByteArray.empty), .string ByteArray.empty, .int .i64 0, .string ByteArray.empty]), rowA encS 1 9 (.slice (some ⟨g2, 0, none⟩) ws.length cp) ws, boxA b1 5 24 (.agg #[.int .i64 0, .string ByteArray.empty, .string ByteArray.empty, .int .i64 0, .string ByteArray.empty])]) _) := HS
     refine wl_as HF rfl rfl rfl rfl rfl ?_; clear HF a; intro a HF
     refine wl_ne ?_
     refine wp_ret ?_
     refine ex_then_ret ?_
     refine bp_ret2 HF Tryz.results8 (HF.resBox rfl (HS.out.box 2 rfl) (by kernel_rfl)) (HF.res rfl) ?_
     exact .inr ⟨sh1l hkd (by omega) (by omega), rfl, HS.out.bel⟩
    ·clear HF; have HF := HF1; clear HF1
     have dcc4 := bne_eq_false_iff_eq.1 cc4
     refine wc_false HF rfl ?_
     refine wp_skip ?_
     refine ex_then ?_
     refine wp_seq ?_
     refine wp_sr ?_
     refine wl_y rfl HF rfl rfl (yl_fieldAddr (j := 0) rfl (HF.ev rfl) (by kernel_rfl)) ?_; clear HF a; intro a HF
     refine wl_y rfl HF rfl rfl (yl_load (v := .int .i64 1) rfl (HF.ev rfl) (((HS.out.box 0 rfl).cell 0).trans rfl) (by kernel_rfl)) ?_; clear HF a; intro a HF
     refine wl_ne ?_
     refine wp_block ?_
     refine wp_sr ?_
     refine wl_y rfl HF rfl rfl (yl_eqlI rfl (HF.ev rfl) (HF.ev rfl)) ?_; clear HF a; intro a HF
     refine wl_as HF rfl rfl rfl rfl rfl ?_; clear HF a; intro a HF
     refine wl_ne ?_
     replace HF := HF.know (k := 38) (c := false) rfl (by decide)
     refine wc_false HF rfl ?_
     refine wp_sr ?_
     refine wl_y rfl HF rfl rfl (yl_eqlI rfl (HF.ev rfl) (HF.ev rfl)) ?_; clear HF a; intro a HF
     refine wl_as HF rfl rfl rfl rfl rfl ?_; clear HF a; intro a HF
     refine wl_ne ?_
     replace HF := HF.know (k := 52) (c := false) rfl (by decide)
     refine wc_false HF rfl ?_
     refine wp_seq ?_
     refine wp_sr ?_
     refine wl_y rfl HF rfl rfl (yl_eqlI rfl (HF.ev rfl) (HF.ev rfl)) ?_; clear HF a; intro a HF
     refine wl_as HF rfl rfl rfl rfl rfl ?_; clear HF a; intro a HF
     refine wl_ne ?_
     replace HF := HF.know (k := 62) (c := false) rfl (by decide)
     refine wc_false HF rfl ?_
     refine wp_region_lit ?_
     refine wl_y rfl HF rfl rfl (yl_eqlI rfl (HF.ev rfl) (HF.ev rfl)) ?_; clear HF a; intro a HF
     refine wl_as HF rfl rfl rfl rfl rfl ?_; clear HF a; intro a HF
     refine wl_ne ?_
     replace HF := HF.know (k := 62) (c := false) rfl (by decide)
     refine wc_false HF rfl ?_
     refine wp_skip ?_
     refine ex_block ?_
     refine ex_then ?_
     refine wp_seq ?_
     refine wp_sr ?_
     refine wl_mv HF rfl rfl rfl rfl rfl ?_; clear HF a; intro a HF
     refine wl_y rfl HF rfl rfl (yl_not rfl (HF.ev rfl)) ?_; clear HF a; intro a HF
     refine wl_mv HF rfl rfl rfl rfl rfl ?_; clear HF a; intro a HF
     refine wl_yg HF rfl rfl rfl rfl rfl (yl_loadR (cs := [.int .i64 1, .string (ws.getD 1 ByteArray.empty), .string ByteArray.empty, .int .i64 0, .string ByteArray.empty]) rfl (HF.ev rfl) ((HS.out.box 0 rfl).sub 0 5) (by kernel_rfl)) ?_; clear HF a; intro a HF
     refine wl_callBg HF rfl rfl rfl rfl (enter_of Tryz.func11 (by kernel_rfl) rfl) (args := #[.agg #[.int .i64 1, .string (ws.getD 1 ByteArray.empty), .string ByteArray.empty, .int .i64 0, .string ByteArray.empty]]) rfl (v := .bool ((⟨1, (ws.getD 1 ByteArray.empty), ByteArray.empty, 0, ByteArray.empty⟩ : OpD).ok)) (implOpOk_any (⟨1, (ws.getD 1 ByteArray.empty), ByteArray.empty, 0, ByteArray.empty⟩ : OpD) _ (HM.out.below HS.out.bel) (by first | exact hz _ | exact Nat.zero_le _) (by first | exact hz _ | exact Nat.zero_le _) (by first | exact hz _ | exact Nat.zero_le _)) rfl rfl HS.out ?_; clear HF HS a; intro w13 a HS HF; replace HS := Bx.mk HS
     refine wl_yg HF rfl rfl rfl rfl rfl (yl_not rfl (HF.ev rfl)) ?_; clear HF a; intro a HF
     refine wl_y rfl HF rfl rfl (yl_pick_f rfl (HF.ev rfl) (HF.ev rfl)) ?_; clear HF a; intro a HF
     refine wl_ne ?_
     refine HF.cases 75 rfl (fun cc5 HF1 => ?_) (fun cc5 HF1 => ?_)
     ·clear HF; have HF := HF1; clear HF1
      refine wc_true HF rfl ?_
      refine wp_sr ?_
      refine wl_y rfl HF rfl rfl (yl_build HF rfl (ps := []) rfl (cs := #[.int .i64 0, .string ByteArray.empty, .string ByteArray.empty, .int .i64 0, .string ByteArray.empty]) (by kernel_rfl)) ?_; clear HF a; intro a HF
      refine wl_storeBox rfl HF rfl rfl (HF.ev rfl) (HF.ev rfl) HS.out 2 rfl (cells_lit [.int .i64 0, .string ByteArray.empty, .string ByteArray.empty, .int .i64 0, .string ByteArray.empty] rfl rfl) (by kernel_rfl) ?_; clear HS; intro w14 HS; replace HS := Bx.mk HS
      have HS : Bx (St w0 ([boxA b3 5 24 (.agg #[.int .i64 1, .string (ws.getD 1 ByteArray.empty), .string ByteArray.empty, .int .i64 0, .string ByteArray.empty]), rowA encS 1 9 (.slice (some ⟨g2, 0, none⟩) ws.length cp) ws, boxA b1 5 24 (.agg #[.int .i64 0, .string ByteArray.empty, .string ByteArray.empty, .int .i64 0, .string ByteArray.empty])]) _) := HS
      refine wl_as HF rfl rfl rfl rfl rfl ?_; clear HF a; intro a HF
      refine wl_ne ?_
      refine wp_ret ?_
      refine ex_then_ret ?_
      refine bp_ret2 HF Tryz.results8 (HF.resBox rfl (HS.out.box 2 rfl) (by kernel_rfl)) (HF.res rfl) ?_
      exact .inr ⟨(sh1 hkd (by omega) (by omega)).trans (chk_no (by simpa using cc5)), rfl, HS.out.bel⟩
     ·clear HF; have HF := HF1; clear HF1
      refine wc_false HF rfl ?_
      refine wp_skip ?_
      refine ex_then ?_
      refine wp_sr ?_
      refine wl_y rfl HF rfl rfl (yl_loadR (cs := [.int .i64 1, .string (ws.getD 1 ByteArray.empty), .string ByteArray.empty, .int .i64 0, .string ByteArray.empty]) rfl (HF.ev rfl) ((HS.out.box 0 rfl).sub 0 5) (by kernel_rfl)) ?_; clear HF a; intro a HF
      refine wl_storeBox rfl HF rfl rfl (HF.ev rfl) (HF.ev rfl) HS.out 2 rfl (cells_lit [.int .i64 1, .string (ws.getD 1 ByteArray.empty), .string ByteArray.empty, .int .i64 0, .string ByteArray.empty] rfl rfl) (by kernel_rfl) ?_; clear HS; intro w15 HS; replace HS := Bx.mk HS
      have HS : Bx (St w0 ([boxA b3 5 24 (.agg #[.int .i64 1, .string (ws.getD 1 ByteArray.empty), .string ByteArray.empty, .int .i64 0, .string ByteArray.empty]), rowA encS 1 9 (.slice (some ⟨g2, 0, none⟩) ws.length cp) ws, boxA b1 5 24 (.agg #[.int .i64 1, .string (ws.getD 1 ByteArray.empty), .string ByteArray.empty, .int .i64 0, .string ByteArray.empty])]) _) := HS
      refine wl_as HF rfl rfl rfl rfl rfl ?_; clear HF a; intro a HF
      refine wl_ne ?_
      refine wp_ret ?_
      refine bp_ret2 HF Tryz.results8 (HF.resBox rfl (HS.out.box 2 rfl) (by kernel_rfl)) (HF.res rfl) ?_
      exact .inl ⟨⟨1, (ws.getD 1 ByteArray.empty), ByteArray.empty, 0, ByteArray.empty⟩, (sh1 hkd (by omega) (by omega)).trans (chk_yes (by simpa using cc5)), rfl, HS.out.bel⟩
   ·skip
    refine wp_region_lit ?_
    refine wl_as HF rfl rfl rfl rfl rfl ?_; clear HF a; intro a HF
    refine wl_ne ?_
    refine wp_seq ?_
    refine wp_sr ?_
    refine wl_y rfl HF rfl rfl (yl_fieldAddr (j := 0) rfl (HF.ev rfl) (by kernel_rfl)) ?_; clear HF a; intro a HF
    refine wl_y rfl HF rfl rfl (yl_load (v := .int .i64 2) rfl (HF.ev rfl) (((HS.out.box 0 rfl).cell 0).trans rfl) (by kernel_rfl)) ?_; clear HF a; intro a HF
    refine wl_ne ?_
    refine wp_block ?_
    refine wp_sr ?_
    refine wl_y rfl HF rfl rfl (yl_eqlI rfl (HF.ev rfl) (HF.ev rfl)) ?_; clear HF a; intro a HF
    refine wl_as HF rfl rfl rfl rfl rfl ?_; clear HF a; intro a HF
    refine wl_ne ?_
    replace HF := HF.know (k := 25) (c := false) rfl (by decide)
    refine wc_false HF rfl ?_
    refine wp_seq ?_
    refine wp_sr ?_
    refine wl_y rfl HF rfl rfl (yl_eqlI rfl (HF.ev rfl) (HF.ev rfl)) ?_; clear HF a; intro a HF
    refine wl_as HF rfl rfl rfl rfl rfl ?_; clear HF a; intro a HF
    refine wl_ne ?_
    replace HF := HF.know (k := 27) (c := false) rfl (by decide)
    refine wc_false HF rfl ?_
    refine wp_sr ?_
    refine wl_y rfl HF rfl rfl (yl_eqlI rfl (HF.ev rfl) (HF.ev rfl)) ?_; clear HF a; intro a HF
    refine wl_as HF rfl rfl rfl rfl rfl ?_; clear HF a; intro a HF
    refine wl_ne ?_
    replace HF := HF.know (k := 27) (c := false) rfl (by decide)
    refine wc_false HF rfl ?_
    refine wp_region_lit ?_
    refine wl_y rfl HF rfl rfl (yl_eqlI rfl (HF.ev rfl) (HF.ev rfl)) ?_; clear HF a; intro a HF
    refine wl_as HF rfl rfl rfl rfl rfl ?_; clear HF a; intro a HF
    refine wl_ne ?_
    replace HF := HF.know (k := 27) (c := false) rfl (by decide)
    refine wc_false HF rfl ?_
    refine wp_skip ?_
    refine ex_block ?_
    refine ex_then ?_
    refine wp_seq ?_
    refine wp_sr ?_
    refine wl_mv HF rfl rfl rfl rfl rfl ?_; clear HF a; intro a HF
    refine wl_y rfl HF rfl rfl (yl_lenL (e := 9) (size := 1) rfl (HF.ev rfl) (by kernel_rfl)) ?_; clear HF a; intro a HF
    refine wl_mv HF rfl rfl rfl rfl rfl ?_; clear HF a; intro a HF
    refine wl_y rfl HF rfl rfl (yl_neqI rfl (HF.ev rfl) (HF.ev rfl)) ?_; clear HF a; intro a HF
    refine wl_ne ?_
    refine HF.cases 34 rfl (fun cc6 HF1 => ?_) (fun cc6 HF1 => ?_)
    ·clear HF; have HF := HF1; clear HF1
     have dcc6 := bne_iff_ne.1 cc6
     refine wc_true HF rfl ?_
     refine wp_sr ?_
     refine wl_y rfl HF rfl rfl (yl_build HF rfl (ps := []) rfl (cs := #[.int .i64 0, .string ByteArray.empty, .string ByteArray.empty, .int .i64 0, .string ByteArray.empty]) (by kernel_rfl)) ?_; clear HF a; intro a HF
     refine wl_storeBox rfl HF rfl rfl (HF.ev rfl) (HF.ev rfl) HS.out 2 rfl (cells_lit [.int .i64 0, .string ByteArray.empty, .string ByteArray.empty, .int .i64 0, .string ByteArray.empty] rfl rfl) (by kernel_rfl) ?_; clear HS; intro w16 HS; replace HS := Bx.mk HS
     have HS : Bx (St w0 ([boxA b3 5 24 (.agg #[.int .i64 2, .string (ws.getD 1 ByteArray.empty), .string ByteArray.empty, .int .i64 0, .string ByteArray.empty]), rowA encS 1 9 (.slice (some ⟨g2, 0, none⟩) ws.length cp) ws, boxA b1 5 24 (.agg #[.int .i64 0, .string ByteArray.empty, .string ByteArray.empty, .int .i64 0, .string ByteArray.empty])]) _) := HS
     refine wl_as HF rfl rfl rfl rfl rfl ?_; clear HF a; intro a HF
     refine wl_ne ?_
     refine wp_ret ?_
     refine ex_then_ret ?_
     refine bp_ret2 HF Tryz.results8 (HF.resBox rfl (HS.out.box 2 rfl) (by kernel_rfl)) (HF.res rfl) ?_
     exact .inr ⟨sh1l hkd (by omega) (by omega), rfl, HS.out.bel⟩
    ·clear HF; have HF := HF1; clear HF1
     have dcc6 := bne_eq_false_iff_eq.1 cc6
     refine wc_false HF rfl ?_
     refine wp_skip ?_
     refine ex_then ?_
     refine wp_seq ?_
     refine wp_sr ?_
     refine wl_y rfl HF rfl rfl (yl_fieldAddr (j := 0) rfl (HF.ev rfl) (by kernel_rfl)) ?_; clear HF a; intro a HF
     refine wl_y rfl HF rfl rfl (yl_load (v := .int .i64 2) rfl (HF.ev rfl) (((HS.out.box 0 rfl).cell 0).trans rfl) (by kernel_rfl)) ?_; clear HF a; intro a HF
     refine wl_ne ?_
     refine wp_block ?_
     refine wp_sr ?_
     refine wl_y rfl HF rfl rfl (yl_eqlI rfl (HF.ev rfl) (HF.ev rfl)) ?_; clear HF a; intro a HF
     refine wl_as HF rfl rfl rfl rfl rfl ?_; clear HF a; intro a HF
     refine wl_ne ?_
     replace HF := HF.know (k := 38) (c := false) rfl (by decide)
     refine wc_false HF rfl ?_
     refine wp_sr ?_
     refine wl_y rfl HF rfl rfl (yl_eqlI rfl (HF.ev rfl) (HF.ev rfl)) ?_; clear HF a; intro a HF
     refine wl_as HF rfl rfl rfl rfl rfl ?_; clear HF a; intro a HF
     refine wl_ne ?_
     replace HF := HF.know (k := 52) (c := false) rfl (by decide)
     refine wc_false HF rfl ?_
     refine wp_seq ?_
     refine wp_sr ?_
     refine wl_y rfl HF rfl rfl (yl_eqlI rfl (HF.ev rfl) (HF.ev rfl)) ?_; clear HF a; intro a HF
     refine wl_as HF rfl rfl rfl rfl rfl ?_; clear HF a; intro a HF
     refine wl_ne ?_
     replace HF := HF.know (k := 62) (c := false) rfl (by decide)
     refine wc_false HF rfl ?_
     refine wp_region_lit ?_
     refine wl_y rfl HF rfl rfl (yl_eqlI rfl (HF.ev rfl) (HF.ev rfl)) ?_; clear HF a; intro a HF
     refine wl_as HF rfl rfl rfl rfl rfl ?_; clear HF a; intro a HF
     refine wl_ne ?_
     replace HF := HF.know (k := 62) (c := false) rfl (by decide)
     refine wc_false HF rfl ?_
     refine wp_skip ?_
     refine ex_block ?_
     refine ex_then ?_
     refine wp_seq ?_
     refine wp_sr ?_
     refine wl_mv HF rfl rfl rfl rfl rfl ?_; clear HF a; intro a HF
     refine wl_y rfl HF rfl rfl (yl_not rfl (HF.ev rfl)) ?_; clear HF a; intro a HF
     refine wl_mv HF rfl rfl rfl rfl rfl ?_; clear HF a; intro a HF
     refine wl_yg HF rfl rfl rfl rfl rfl (yl_loadR (cs := [.int .i64 2, .string (ws.getD 1 ByteArray.empty), .string ByteArray.empty, .int .i64 0, .string ByteArray.empty]) rfl (HF.ev rfl) ((HS.out.box 0 rfl).sub 0 5) (by kernel_rfl)) ?_; clear HF a; intro a HF
     refine wl_callBg HF rfl rfl rfl rfl (enter_of Tryz.func11 (by kernel_rfl) rfl) (args := #[.agg #[.int .i64 2, .string (ws.getD 1 ByteArray.empty), .string ByteArray.empty, .int .i64 0, .string ByteArray.empty]]) rfl (v := .bool ((⟨2, (ws.getD 1 ByteArray.empty), ByteArray.empty, 0, ByteArray.empty⟩ : OpD).ok)) (implOpOk_any (⟨2, (ws.getD 1 ByteArray.empty), ByteArray.empty, 0, ByteArray.empty⟩ : OpD) _ (HM.out.below HS.out.bel) (by first | exact hz _ | exact Nat.zero_le _) (by first | exact hz _ | exact Nat.zero_le _) (by first | exact hz _ | exact Nat.zero_le _)) rfl rfl HS.out ?_; clear HF HS a; intro w17 a HS HF; replace HS := Bx.mk HS
     refine wl_yg HF rfl rfl rfl rfl rfl (yl_not rfl (HF.ev rfl)) ?_; clear HF a; intro a HF
     refine wl_y rfl HF rfl rfl (yl_pick_f rfl (HF.ev rfl) (HF.ev rfl)) ?_; clear HF a; intro a HF
     refine wl_ne ?_
     refine HF.cases 75 rfl (fun cc7 HF1 => ?_) (fun cc7 HF1 => ?_)
     ·clear HF; have HF := HF1; clear HF1
      refine wc_true HF rfl ?_
      refine wp_sr ?_
      refine wl_y rfl HF rfl rfl (yl_build HF rfl (ps := []) rfl (cs := #[.int .i64 0, .string ByteArray.empty, .string ByteArray.empty, .int .i64 0, .string ByteArray.empty]) (by kernel_rfl)) ?_; clear HF a; intro a HF
      refine wl_storeBox rfl HF rfl rfl (HF.ev rfl) (HF.ev rfl) HS.out 2 rfl (cells_lit [.int .i64 0, .string ByteArray.empty, .string ByteArray.empty, .int .i64 0, .string ByteArray.empty] rfl rfl) (by kernel_rfl) ?_; clear HS; intro w18 HS; replace HS := Bx.mk HS
      have HS : Bx (St w0 ([boxA b3 5 24 (.agg #[.int .i64 2, .string (ws.getD 1 ByteArray.empty), .string ByteArray.empty, .int .i64 0, .string ByteArray.empty]), rowA encS 1 9 (.slice (some ⟨g2, 0, none⟩) ws.length cp) ws, boxA b1 5 24 (.agg #[.int .i64 0, .string ByteArray.empty, .string ByteArray.empty, .int .i64 0, .string ByteArray.empty])]) _) := HS
      refine wl_as HF rfl rfl rfl rfl rfl ?_; clear HF a; intro a HF
      refine wl_ne ?_
      refine wp_ret ?_
      refine ex_then_ret ?_
      refine bp_ret2 HF Tryz.results8 (HF.resBox rfl (HS.out.box 2 rfl) (by kernel_rfl)) (HF.res rfl) ?_
      exact .inr ⟨(sh1 hkd (by omega) (by omega)).trans (chk_no (by simpa using cc7)), rfl, HS.out.bel⟩
     ·clear HF; have HF := HF1; clear HF1
      refine wc_false HF rfl ?_
      refine wp_skip ?_
      refine ex_then ?_
      refine wp_sr ?_
      refine wl_y rfl HF rfl rfl (yl_loadR (cs := [.int .i64 2, .string (ws.getD 1 ByteArray.empty), .string ByteArray.empty, .int .i64 0, .string ByteArray.empty]) rfl (HF.ev rfl) ((HS.out.box 0 rfl).sub 0 5) (by kernel_rfl)) ?_; clear HF a; intro a HF
      refine wl_storeBox rfl HF rfl rfl (HF.ev rfl) (HF.ev rfl) HS.out 2 rfl (cells_lit [.int .i64 2, .string (ws.getD 1 ByteArray.empty), .string ByteArray.empty, .int .i64 0, .string ByteArray.empty] rfl rfl) (by kernel_rfl) ?_; clear HS; intro w19 HS; replace HS := Bx.mk HS
      have HS : Bx (St w0 ([boxA b3 5 24 (.agg #[.int .i64 2, .string (ws.getD 1 ByteArray.empty), .string ByteArray.empty, .int .i64 0, .string ByteArray.empty]), rowA encS 1 9 (.slice (some ⟨g2, 0, none⟩) ws.length cp) ws, boxA b1 5 24 (.agg #[.int .i64 2, .string (ws.getD 1 ByteArray.empty), .string ByteArray.empty, .int .i64 0, .string ByteArray.empty])]) _) := HS
      refine wl_as HF rfl rfl rfl rfl rfl ?_; clear HF a; intro a HF
      refine wl_ne ?_
      refine wp_ret ?_
      refine bp_ret2 HF Tryz.results8 (HF.resBox rfl (HS.out.box 2 rfl) (by kernel_rfl)) (HF.res rfl) ?_
      exact .inl ⟨⟨2, (ws.getD 1 ByteArray.empty), ByteArray.empty, 0, ByteArray.empty⟩, (sh1 hkd (by omega) (by omega)).trans (chk_yes (by simpa using cc7)), rfl, HS.out.bel⟩
   ·skip
    refine wp_region_lit ?_
    refine wl_as HF rfl rfl rfl rfl rfl ?_; clear HF a; intro a HF
    refine wl_ne ?_
    refine wp_seq ?_
    refine wp_sr ?_
    refine wl_y rfl HF rfl rfl (yl_fieldAddr (j := 0) rfl (HF.ev rfl) (by kernel_rfl)) ?_; clear HF a; intro a HF
    refine wl_y rfl HF rfl rfl (yl_load (v := .int .i64 3) rfl (HF.ev rfl) (((HS.out.box 0 rfl).cell 0).trans rfl) (by kernel_rfl)) ?_; clear HF a; intro a HF
    refine wl_ne ?_
    refine wp_block ?_
    refine wp_sr ?_
    refine wl_y rfl HF rfl rfl (yl_eqlI rfl (HF.ev rfl) (HF.ev rfl)) ?_; clear HF a; intro a HF
    refine wl_as HF rfl rfl rfl rfl rfl ?_; clear HF a; intro a HF
    refine wl_ne ?_
    replace HF := HF.know (k := 25) (c := true) rfl (by decide)
    refine wc_true HF rfl ?_
    refine wp_region_lit ?_
    refine wl_as HF rfl rfl rfl rfl rfl ?_; clear HF a; intro a HF
    refine wpList_nil ?_
    refine ex_block ?_
    refine ex_then ?_
    refine wp_seq ?_
    refine wp_sr ?_
    refine wl_mv HF rfl rfl rfl rfl rfl ?_; clear HF a; intro a HF
    refine wl_y rfl HF rfl rfl (yl_lenL (e := 9) (size := 1) rfl (HF.ev rfl) (by kernel_rfl)) ?_; clear HF a; intro a HF
    refine wl_mv HF rfl rfl rfl rfl rfl ?_; clear HF a; intro a HF
    refine wl_y rfl HF rfl rfl (yl_neqI rfl (HF.ev rfl) (HF.ev rfl)) ?_; clear HF a; intro a HF
    refine wl_ne ?_
    refine HF.cases 34 rfl (fun cc8 HF1 => ?_) (fun cc8 HF1 => ?_)
    ·clear HF; have HF := HF1; clear HF1
     have dcc8 := bne_iff_ne.1 cc8
     refine wc_true HF rfl ?_
     refine wp_sr ?_
     refine wl_y rfl HF rfl rfl (yl_build HF rfl (ps := []) rfl (cs := #[.int .i64 0, .string ByteArray.empty, .string ByteArray.empty, .int .i64 0, .string ByteArray.empty]) (by kernel_rfl)) ?_; clear HF a; intro a HF
     refine wl_storeBox rfl HF rfl rfl (HF.ev rfl) (HF.ev rfl) HS.out 2 rfl (cells_lit [.int .i64 0, .string ByteArray.empty, .string ByteArray.empty, .int .i64 0, .string ByteArray.empty] rfl rfl) (by kernel_rfl) ?_; clear HS; intro w20 HS; replace HS := Bx.mk HS
     have HS : Bx (St w0 ([boxA b3 5 24 (.agg #[.int .i64 3, .string (ws.getD 1 ByteArray.empty), .string ByteArray.empty, .int .i64 0, .string ByteArray.empty]), rowA encS 1 9 (.slice (some ⟨g2, 0, none⟩) ws.length cp) ws, boxA b1 5 24 (.agg #[.int .i64 0, .string ByteArray.empty, .string ByteArray.empty, .int .i64 0, .string ByteArray.empty])]) _) := HS
     refine wl_as HF rfl rfl rfl rfl rfl ?_; clear HF a; intro a HF
     refine wl_ne ?_
     refine wp_ret ?_
     refine ex_then_ret ?_
     refine bp_ret2 HF Tryz.results8 (HF.resBox rfl (HS.out.box 2 rfl) (by kernel_rfl)) (HF.res rfl) ?_
     exact .inr ⟨sh3l hkd  (by omega), rfl, HS.out.bel⟩
    ·clear HF; have HF := HF1; clear HF1
     have dcc8 := bne_eq_false_iff_eq.1 cc8
     refine wc_false HF rfl ?_
     refine wp_skip ?_
     refine ex_then ?_
     refine wp_seq ?_
     refine wp_sr ?_
     refine wl_y rfl HF rfl rfl (yl_fieldAddr (j := 0) rfl (HF.ev rfl) (by kernel_rfl)) ?_; clear HF a; intro a HF
     refine wl_y rfl HF rfl rfl (yl_load (v := .int .i64 3) rfl (HF.ev rfl) (((HS.out.box 0 rfl).cell 0).trans rfl) (by kernel_rfl)) ?_; clear HF a; intro a HF
     refine wl_ne ?_
     refine wp_block ?_
     refine wp_sr ?_
     refine wl_y rfl HF rfl rfl (yl_eqlI rfl (HF.ev rfl) (HF.ev rfl)) ?_; clear HF a; intro a HF
     refine wl_as HF rfl rfl rfl rfl rfl ?_; clear HF a; intro a HF
     refine wl_ne ?_
     replace HF := HF.know (k := 38) (c := true) rfl (by decide)
     refine wc_true HF rfl ?_
     refine wp_sr ?_
     refine wl_mv HF rfl rfl rfl rfl rfl ?_; clear HF a; intro a HF
     refine wl_y rfl HF rfl rfl (yl_indexAddr (e := 9) (i := 2) (size := 1) rfl (HF.ev rfl) (HF.ev rfl) (by kernel_rfl) rfl (by omega)) ?_; clear HF a; intro a HF
     refine wl_y rfl HF rfl rfl (yl_load (v := .string (ws.getD 2 ByteArray.empty)) rfl (HF.ev rfl) (HS.out.elem1 encS_len 1 rfl (get_getD (xs := ws) (j := 2) (d := ByteArray.empty) (by omega)) rfl) (by kernel_rfl)) ?_; clear HF a; intro a HF
     refine wl_call rfl HF rfl (enter_of Tryz.func21 (by kernel_rfl) rfl) (args := #[.string (ws.getD 2 ByteArray.empty)]) rfl (implNumGet_any (ws.getD 2 ByteArray.empty) _ (HT.out.below HS.out.bel) (HE.out.below HS.out.bel)) rfl rfl ?_
     rintro _ w21 (⟨n, hng, rfl, hb⟩ | ⟨hng, rfl, hb⟩)
     ·skip
      refine ⟨_, rfl, ?_⟩; replace HS := Bx.mk (HS.out.later hb); clear hb HF; clear a; intro a HF
      refine wl_mv HF rfl rfl rfl rfl rfl ?_; clear HF a; intro a HF
      refine wl_y rfl HF rfl rfl (yl_extract rfl (HF.ev rfl) rfl) ?_; clear HF a; intro a HF
      refine wl_y rfl HF rfl rfl (yl_extract rfl (HF.ev rfl) rfl) ?_; clear HF a; intro a HF
      refine wl_y rfl HF rfl rfl (yl_fieldAddr (j := 3) rfl (HF.ev rfl) (by kernel_rfl)) ?_; clear HF a; intro a HF
      refine wl_storeF rfl rfl rfl (HF.ev rfl) (HF.ev rfl) (by kernel_rfl) HS.out 0 rfl rfl rfl ?_; clear HS; intro w22 HS; replace HS := Bx.mk HS
      have HS : Bx (St w0 ([boxA b3 5 24 (.agg #[.int .i64 3, .string (ws.getD 1 ByteArray.empty), .string ByteArray.empty, .int .i64 (n : Int), .string ByteArray.empty]), rowA encS 1 9 (.slice (some ⟨g2, 0, none⟩) ws.length cp) ws, boxA b1 5 24 (.agg #[.int .i64 0, .string ByteArray.empty, .string ByteArray.empty, .int .i64 0, .string ByteArray.empty])]) _) := HS
      refine wl_as HF rfl rfl rfl rfl rfl ?_; clear HF a; intro a HF
      refine wl_ne ?_
      refine wp_region_lit ?_
      refine wl_mv HF rfl rfl rfl rfl rfl ?_; clear HF a; intro a HF
      refine wl_y rfl HF rfl rfl (yl_indexAddr (e := 9) (i := 3) (size := 1) rfl (HF.ev rfl) (HF.ev rfl) (by kernel_rfl) rfl (by omega)) ?_; clear HF a; intro a HF
      refine wl_y rfl HF rfl rfl (yl_load (v := .string (ws.getD 3 ByteArray.empty)) rfl (HF.ev rfl) (HS.out.elem1 encS_len 1 rfl (get_getD (xs := ws) (j := 3) (d := ByteArray.empty) (by omega)) rfl) (by kernel_rfl)) ?_; clear HF a; intro a HF
      refine wl_y rfl HF rfl rfl (yl_fieldAddr (j := 4) rfl (HF.ev rfl) (by kernel_rfl)) ?_; clear HF a; intro a HF
      refine wl_storeF rfl rfl rfl (HF.ev rfl) (HF.ev rfl) (by kernel_rfl) HS.out 0 rfl rfl rfl ?_; clear HS; intro w23 HS; replace HS := Bx.mk HS
      have HS : Bx (St w0 ([boxA b3 5 24 (.agg #[.int .i64 3, .string (ws.getD 1 ByteArray.empty), .string ByteArray.empty, .int .i64 (n : Int), .string (ws.getD 3 ByteArray.empty)]), rowA encS 1 9 (.slice (some ⟨g2, 0, none⟩) ws.length cp) ws, boxA b1 5 24 (.agg #[.int .i64 0, .string ByteArray.empty, .string ByteArray.empty, .int .i64 0, .string ByteArray.empty])]) _) := HS
      refine wpList_nil ?_
      refine ex_block ?_
      refine ex_then ?_
      refine wp_seq ?_
      refine wp_sr ?_
      refine wl_mv HF rfl rfl rfl rfl rfl ?_; clear HF a; intro a HF
      refine wl_y rfl HF rfl rfl (yl_not rfl (HF.ev rfl)) ?_; clear HF a; intro a HF
      refine wl_mv HF rfl rfl rfl rfl rfl ?_; clear HF a; intro a HF
      refine wl_yg HF rfl rfl rfl rfl rfl (yl_loadR (cs := [.int .i64 3, .string (ws.getD 1 ByteArray.empty), .string ByteArray.empty, .int .i64 (n : Int), .string (ws.getD 3 ByteArray.empty)]) rfl (HF.ev rfl) ((HS.out.box 0 rfl).sub 0 5) (by kernel_rfl)) ?_; clear HF a; intro a HF
      refine wl_callBg HF rfl rfl rfl rfl (enter_of Tryz.func11 (by kernel_rfl) rfl) (args := #[.agg #[.int .i64 3, .string (ws.getD 1 ByteArray.empty), .string ByteArray.empty, .int .i64 (n : Int), .string (ws.getD 3 ByteArray.empty)]]) rfl (v := .bool ((⟨3, (ws.getD 1 ByteArray.empty), ByteArray.empty, (n : Int), (ws.getD 3 ByteArray.empty)⟩ : OpD).ok)) (implOpOk_any (⟨3, (ws.getD 1 ByteArray.empty), ByteArray.empty, (n : Int), (ws.getD 3 ByteArray.empty)⟩ : OpD) _ (HM.out.below HS.out.bel) (by first | exact hz _ | exact Nat.zero_le _) (by first | exact hz _ | exact Nat.zero_le _) (by first | exact hz _ | exact Nat.zero_le _)) rfl rfl HS.out ?_; clear HF HS a; intro w24 a HS HF; replace HS := Bx.mk HS
      refine wl_yg HF rfl rfl rfl rfl rfl (yl_not rfl (HF.ev rfl)) ?_; clear HF a; intro a HF
      refine wl_y rfl HF rfl rfl (yl_pick_f rfl (HF.ev rfl) (HF.ev rfl)) ?_; clear HF a; intro a HF
      refine wl_ne ?_
      refine HF.cases 75 rfl (fun cc9 HF1 => ?_) (fun cc9 HF1 => ?_)
      ·clear HF; have HF := HF1; clear HF1
       refine wc_true HF rfl ?_
       refine wp_sr ?_
       refine wl_y rfl HF rfl rfl (yl_build HF rfl (ps := []) rfl (cs := #[.int .i64 0, .string ByteArray.empty, .string ByteArray.empty, .int .i64 0, .string ByteArray.empty]) (by kernel_rfl)) ?_; clear HF a; intro a HF
       refine wl_storeBox rfl HF rfl rfl (HF.ev rfl) (HF.ev rfl) HS.out 2 rfl (cells_lit [.int .i64 0, .string ByteArray.empty, .string ByteArray.empty, .int .i64 0, .string ByteArray.empty] rfl rfl) (by kernel_rfl) ?_; clear HS; intro w25 HS; replace HS := Bx.mk HS
       have HS : Bx (St w0 ([boxA b3 5 24 (.agg #[.int .i64 3, .string (ws.getD 1 ByteArray.empty), .string ByteArray.empty, .int .i64 (n : Int), .string (ws.getD 3 ByteArray.empty)]), rowA encS 1 9 (.slice (some ⟨g2, 0, none⟩) ws.length cp) ws, boxA b1 5 24 (.agg #[.int .i64 0, .string ByteArray.empty, .string ByteArray.empty, .int .i64 0, .string ByteArray.empty])]) _) := HS
       refine wl_as HF rfl rfl rfl rfl rfl ?_; clear HF a; intro a HF
       refine wl_ne ?_
       refine wp_ret ?_
       refine ex_then_ret ?_
       refine bp_ret2 HF Tryz.results8 (HF.resBox rfl (HS.out.box 2 rfl) (by kernel_rfl)) (HF.res rfl) ?_
       exact .inr ⟨(sh3 hkd (by omega) (hne 3 (by omega)) hng).trans (chk_no (by simpa using cc9)), rfl, HS.out.bel⟩
      ·clear HF; have HF := HF1; clear HF1
       refine wc_false HF rfl ?_
       refine wp_skip ?_
       refine ex_then ?_
       refine wp_sr ?_
       refine wl_y rfl HF rfl rfl (yl_loadR (cs := [.int .i64 3, .string (ws.getD 1 ByteArray.empty), .string ByteArray.empty, .int .i64 (n : Int), .string (ws.getD 3 ByteArray.empty)]) rfl (HF.ev rfl) ((HS.out.box 0 rfl).sub 0 5) (by kernel_rfl)) ?_; clear HF a; intro a HF
       refine wl_storeBox rfl HF rfl rfl (HF.ev rfl) (HF.ev rfl) HS.out 2 rfl (cells_lit [.int .i64 3, .string (ws.getD 1 ByteArray.empty), .string ByteArray.empty, .int .i64 (n : Int), .string (ws.getD 3 ByteArray.empty)] rfl rfl) (by kernel_rfl) ?_; clear HS; intro w26 HS; replace HS := Bx.mk HS
       have HS : Bx (St w0 ([boxA b3 5 24 (.agg #[.int .i64 3, .string (ws.getD 1 ByteArray.empty), .string ByteArray.empty, .int .i64 (n : Int), .string (ws.getD 3 ByteArray.empty)]), rowA encS 1 9 (.slice (some ⟨g2, 0, none⟩) ws.length cp) ws, boxA b1 5 24 (.agg #[.int .i64 3, .string (ws.getD 1 ByteArray.empty), .string ByteArray.empty, .int .i64 (n : Int), .string (ws.getD 3 ByteArray.empty)])]) _) := HS
       refine wl_as HF rfl rfl rfl rfl rfl ?_; clear HF a; intro a HF
       refine wl_ne ?_
       refine wp_ret ?_
       refine bp_ret2 HF Tryz.results8 (HF.resBox rfl (HS.out.box 2 rfl) (by kernel_rfl)) (HF.res rfl) ?_
       exact .inl ⟨⟨3, (ws.getD 1 ByteArray.empty), ByteArray.empty, (n : Int), (ws.getD 3 ByteArray.empty)⟩, (sh3 hkd (by omega) (hne 3 (by omega)) hng).trans (chk_yes (by simpa using cc9)), rfl, HS.out.bel⟩
     ·skip
      refine ⟨_, rfl, ?_⟩; replace HS := Bx.mk (HS.out.later hb); clear hb HF; clear a; intro a HF
      refine wl_mv HF rfl rfl rfl rfl rfl ?_; clear HF a; intro a HF
      refine wl_y rfl HF rfl rfl (yl_extract rfl (HF.ev rfl) rfl) ?_; clear HF a; intro a HF
      refine wl_y rfl HF rfl rfl (yl_extract rfl (HF.ev rfl) rfl) ?_; clear HF a; intro a HF
      refine wl_y rfl HF rfl rfl (yl_fieldAddr (j := 3) rfl (HF.ev rfl) (by kernel_rfl)) ?_; clear HF a; intro a HF
      refine wl_storeF rfl rfl rfl (HF.ev rfl) (HF.ev rfl) (by kernel_rfl) HS.out 0 rfl rfl rfl ?_; clear HS; intro w27 HS; replace HS := Bx.mk HS
      have HS : Bx (St w0 ([boxA b3 5 24 (.agg #[.int .i64 3, .string (ws.getD 1 ByteArray.empty), .string ByteArray.empty, .int .i64 0, .string ByteArray.empty]), rowA encS 1 9 (.slice (some ⟨g2, 0, none⟩) ws.length cp) ws, boxA b1 5 24 (.agg #[.int .i64 0, .string ByteArray.empty, .string ByteArray.empty, .int .i64 0, .string ByteArray.empty])]) _) := HS
      refine wl_as HF rfl rfl rfl rfl rfl ?_; clear HF a; intro a HF
      refine wl_ne ?_
      refine wp_region_lit ?_
      refine wl_mv HF rfl rfl rfl rfl rfl ?_; clear HF a; intro a HF
      refine wl_y rfl HF rfl rfl (yl_indexAddr (e := 9) (i := 3) (size := 1) rfl (HF.ev rfl) (HF.ev rfl) (by kernel_rfl) rfl (by omega)) ?_; clear HF a; intro a HF
      refine wl_y rfl HF rfl rfl (yl_load (v := .string (ws.getD 3 ByteArray.empty)) rfl (HF.ev rfl) (HS.out.elem1 encS_len 1 rfl (get_getD (xs := ws) (j := 3) (d := ByteArray.empty) (by omega)) rfl) (by kernel_rfl)) ?_; clear HF a; intro a HF
      refine wl_y rfl HF rfl rfl (yl_fieldAddr (j := 4) rfl (HF.ev rfl) (by kernel_rfl)) ?_; clear HF a; intro a HF
      refine wl_storeF rfl rfl rfl (HF.ev rfl) (HF.ev rfl) (by kernel_rfl) HS.out 0 rfl rfl rfl ?_; clear HS; intro w28 HS; replace HS := Bx.mk HS
      have HS : Bx (St w0 ([boxA b3 5 24 (.agg #[.int .i64 3, .string (ws.getD 1 ByteArray.empty), .string ByteArray.empty, .int .i64 0, .string (ws.getD 3 ByteArray.empty)]), rowA encS 1 9 (.slice (some ⟨g2, 0, none⟩) ws.length cp) ws, boxA b1 5 24 (.agg #[.int .i64 0, .string ByteArray.empty, .string ByteArray.empty, .int .i64 0, .string ByteArray.empty])]) _) := HS
      refine wpList_nil ?_
      refine ex_block ?_
      refine ex_then ?_
      refine wp_seq ?_
      refine wp_sr ?_
      refine wl_mv HF rfl rfl rfl rfl rfl ?_; clear HF a; intro a HF
      refine wl_y rfl HF rfl rfl (yl_not rfl (HF.ev rfl)) ?_; clear HF a; intro a HF
      refine wl_mv HF rfl rfl rfl rfl rfl ?_; clear HF a; intro a HF
      refine wl_skip HF rfl rfl rfl rfl rfl rfl ?_; clear HF a; intro a HF
      refine wl_skip HF rfl rfl rfl rfl rfl rfl ?_; clear HF a; intro a HF
      refine wl_skip HF rfl rfl rfl rfl rfl rfl ?_; clear HF a; intro a HF
      refine wl_y rfl HF rfl rfl (yl_pick_t rfl (HF.ev rfl) (HF.ev rfl)) ?_; clear HF a; intro a HF
      refine wl_ne ?_
      refine wc_true HF rfl ?_
      refine wp_sr ?_
      refine wl_y rfl HF rfl rfl (yl_build HF rfl (ps := []) rfl (cs := #[.int .i64 0, .string ByteArray.empty, .string ByteArray.empty, .int .i64 0, .string ByteArray.empty]) (by kernel_rfl)) ?_; clear HF a; intro a HF
      refine wl_storeBox rfl HF rfl rfl (HF.ev rfl) (HF.ev rfl) HS.out 2 rfl (cells_lit [.int .i64 0, .string ByteArray.empty, .string ByteArray.empty, .int .i64 0, .string ByteArray.empty] rfl rfl) (by kernel_rfl) ?_; clear HS; intro w29 HS; replace HS := Bx.mk HS
      have HS : Bx (St w0 ([boxA b3 5 24 (.agg #[.int .i64 3, .string (ws.getD 1 ByteArray.empty), .string ByteArray.empty, .int .i64 0, .string (ws.getD 3 ByteArray.empty)]), rowA encS 1 9 (.slice (some ⟨g2, 0, none⟩) ws.length cp) ws, boxA b1 5 24 (.agg #[.int .i64 0, .string ByteArray.empty, .string ByteArray.empty, .int .i64 0, .string ByteArray.empty])]) _) := HS
      refine wl_as HF rfl rfl rfl rfl rfl ?_; clear HF a; intro a HF
      refine wl_ne ?_
      refine wp_ret ?_
      refine ex_then_ret ?_
      refine bp_ret2 HF Tryz.results8 (HF.resBox rfl (HS.out.box 2 rfl) (by kernel_rfl)) (HF.res rfl) ?_
      exact .inr ⟨sh3n hkd hng, rfl, HS.out.bel⟩
   ·skip
    refine wp_region_lit ?_
    refine wl_as HF rfl rfl rfl rfl rfl ?_; clear HF a; intro a HF
    refine wl_ne ?_
    refine wp_seq ?_
    refine wp_sr ?_
    refine wl_y rfl HF rfl rfl (yl_fieldAddr (j := 0) rfl (HF.ev rfl) (by kernel_rfl)) ?_; clear HF a; intro a HF
    refine wl_y rfl HF rfl rfl (yl_load (v := .int .i64 4) rfl (HF.ev rfl) (((HS.out.box 0 rfl).cell 0).trans rfl) (by kernel_rfl)) ?_; clear HF a; intro a HF
    refine wl_ne ?_
    refine wp_block ?_
    refine wp_sr ?_
    refine wl_y rfl HF rfl rfl (yl_eqlI rfl (HF.ev rfl) (HF.ev rfl)) ?_; clear HF a; intro a HF
    refine wl_as HF rfl rfl rfl rfl rfl ?_; clear HF a; intro a HF
    refine wl_ne ?_
    replace HF := HF.know (k := 25) (c := false) rfl (by decide)
    refine wc_false HF rfl ?_
    refine wp_seq ?_
    refine wp_sr ?_
    refine wl_y rfl HF rfl rfl (yl_eqlI rfl (HF.ev rfl) (HF.ev rfl)) ?_; clear HF a; intro a HF
    refine wl_as HF rfl rfl rfl rfl rfl ?_; clear HF a; intro a HF
    refine wl_ne ?_
    replace HF := HF.know (k := 27) (c := true) rfl (by decide)
    refine wc_true HF rfl ?_
    refine wp_skip ?_
    refine ex_then ?_
    refine wc_true HF rfl ?_
    refine wp_region_lit ?_
    refine wl_as HF rfl rfl rfl rfl rfl ?_; clear HF a; intro a HF
    refine wpList_nil ?_
    refine ex_block ?_
    refine ex_then ?_
    refine wp_seq ?_
    refine wp_sr ?_
    refine wl_mv HF rfl rfl rfl rfl rfl ?_; clear HF a; intro a HF
    refine wl_y rfl HF rfl rfl (yl_lenL (e := 9) (size := 1) rfl (HF.ev rfl) (by kernel_rfl)) ?_; clear HF a; intro a HF
    refine wl_mv HF rfl rfl rfl rfl rfl ?_; clear HF a; intro a HF
    refine wl_y rfl HF rfl rfl (yl_neqI rfl (HF.ev rfl) (HF.ev rfl)) ?_; clear HF a; intro a HF
    refine wl_ne ?_
    refine HF.cases 34 rfl (fun cc10 HF1 => ?_) (fun cc10 HF1 => ?_)
    ·clear HF; have HF := HF1; clear HF1
     have dcc10 := bne_iff_ne.1 cc10
     refine wc_true HF rfl ?_
     refine wp_sr ?_
     refine wl_y rfl HF rfl rfl (yl_build HF rfl (ps := []) rfl (cs := #[.int .i64 0, .string ByteArray.empty, .string ByteArray.empty, .int .i64 0, .string ByteArray.empty]) (by kernel_rfl)) ?_; clear HF a; intro a HF
     refine wl_storeBox rfl HF rfl rfl (HF.ev rfl) (HF.ev rfl) HS.out 2 rfl (cells_lit [.int .i64 0, .string ByteArray.empty, .string ByteArray.empty, .int .i64 0, .string ByteArray.empty] rfl rfl) (by kernel_rfl) ?_; clear HS; intro w30 HS; replace HS := Bx.mk HS
     have HS : Bx (St w0 ([boxA b3 5 24 (.agg #[.int .i64 4, .string (ws.getD 1 ByteArray.empty), .string ByteArray.empty, .int .i64 0, .string ByteArray.empty]), rowA encS 1 9 (.slice (some ⟨g2, 0, none⟩) ws.length cp) ws, boxA b1 5 24 (.agg #[.int .i64 0, .string ByteArray.empty, .string ByteArray.empty, .int .i64 0, .string ByteArray.empty])]) _) := HS
     refine wl_as HF rfl rfl rfl rfl rfl ?_; clear HF a; intro a HF
     refine wl_ne ?_
     refine wp_ret ?_
     refine ex_then_ret ?_
     refine bp_ret2 HF Tryz.results8 (HF.resBox rfl (HS.out.box 2 rfl) (by kernel_rfl)) (HF.res rfl) ?_
     exact .inr ⟨sh4l hkd  (by omega), rfl, HS.out.bel⟩
    ·clear HF; have HF := HF1; clear HF1
     have dcc10 := bne_eq_false_iff_eq.1 cc10
     refine wc_false HF rfl ?_
     refine wp_skip ?_
     refine ex_then ?_
     refine wp_seq ?_
     refine wp_sr ?_
     refine wl_y rfl HF rfl rfl (yl_fieldAddr (j := 0) rfl (HF.ev rfl) (by kernel_rfl)) ?_; clear HF a; intro a HF
     refine wl_y rfl HF rfl rfl (yl_load (v := .int .i64 4) rfl (HF.ev rfl) (((HS.out.box 0 rfl).cell 0).trans rfl) (by kernel_rfl)) ?_; clear HF a; intro a HF
     refine wl_ne ?_
     refine wp_block ?_
     refine wp_sr ?_
     refine wl_y rfl HF rfl rfl (yl_eqlI rfl (HF.ev rfl) (HF.ev rfl)) ?_; clear HF a; intro a HF
     refine wl_as HF rfl rfl rfl rfl rfl ?_; clear HF a; intro a HF
     refine wl_ne ?_
     replace HF := HF.know (k := 38) (c := false) rfl (by decide)
     refine wc_false HF rfl ?_
     refine wp_sr ?_
     refine wl_y rfl HF rfl rfl (yl_eqlI rfl (HF.ev rfl) (HF.ev rfl)) ?_; clear HF a; intro a HF
     refine wl_as HF rfl rfl rfl rfl rfl ?_; clear HF a; intro a HF
     refine wl_ne ?_
     replace HF := HF.know (k := 52) (c := true) rfl (by decide)
     refine wc_true HF rfl ?_
     refine wp_region_lit ?_
     refine wl_mv HF rfl rfl rfl rfl rfl ?_; clear HF a; intro a HF
     refine wl_y rfl HF rfl rfl (yl_indexAddr (e := 9) (i := 2) (size := 1) rfl (HF.ev rfl) (HF.ev rfl) (by kernel_rfl) rfl (by omega)) ?_; clear HF a; intro a HF
     refine wl_y rfl HF rfl rfl (yl_load (v := .string (ws.getD 2 ByteArray.empty)) rfl (HF.ev rfl) (HS.out.elem1 encS_len 1 rfl (get_getD (xs := ws) (j := 2) (d := ByteArray.empty) (by omega)) rfl) (by kernel_rfl)) ?_; clear HF a; intro a HF
     refine wl_call rfl HF rfl (enter_of Tryz.func21 (by kernel_rfl) rfl) (args := #[.string (ws.getD 2 ByteArray.empty)]) rfl (implNumGet_any (ws.getD 2 ByteArray.empty) _ (HT.out.below HS.out.bel) (HE.out.below HS.out.bel)) rfl rfl ?_
     rintro _ w31 (⟨n, hng, rfl, hb⟩ | ⟨hng, rfl, hb⟩)
     ·skip
      refine ⟨_, rfl, ?_⟩; replace HS := Bx.mk (HS.out.later hb); clear hb HF; clear a; intro a HF
      refine wl_mv HF rfl rfl rfl rfl rfl ?_; clear HF a; intro a HF
      refine wl_y rfl HF rfl rfl (yl_extract rfl (HF.ev rfl) rfl) ?_; clear HF a; intro a HF
      refine wl_y rfl HF rfl rfl (yl_extract rfl (HF.ev rfl) rfl) ?_; clear HF a; intro a HF
      refine wl_y rfl HF rfl rfl (yl_fieldAddr (j := 3) rfl (HF.ev rfl) (by kernel_rfl)) ?_; clear HF a; intro a HF
      refine wl_storeF rfl rfl rfl (HF.ev rfl) (HF.ev rfl) (by kernel_rfl) HS.out 0 rfl rfl rfl ?_; clear HS; intro w32 HS; replace HS := Bx.mk HS
      have HS : Bx (St w0 ([boxA b3 5 24 (.agg #[.int .i64 4, .string (ws.getD 1 ByteArray.empty), .string ByteArray.empty, .int .i64 (n : Int), .string ByteArray.empty]), rowA encS 1 9 (.slice (some ⟨g2, 0, none⟩) ws.length cp) ws, boxA b1 5 24 (.agg #[.int .i64 0, .string ByteArray.empty, .string ByteArray.empty, .int .i64 0, .string ByteArray.empty])]) _) := HS
      refine wl_as HF rfl rfl rfl rfl rfl ?_; clear HF a; intro a HF
      refine wpList_nil ?_
      refine ex_block ?_
      refine ex_then ?_
      refine wp_seq ?_
      refine wp_sr ?_
      refine wl_mv HF rfl rfl rfl rfl rfl ?_; clear HF a; intro a HF
      refine wl_y rfl HF rfl rfl (yl_not rfl (HF.ev rfl)) ?_; clear HF a; intro a HF
      refine wl_mv HF rfl rfl rfl rfl rfl ?_; clear HF a; intro a HF
      refine wl_yg HF rfl rfl rfl rfl rfl (yl_loadR (cs := [.int .i64 4, .string (ws.getD 1 ByteArray.empty), .string ByteArray.empty, .int .i64 (n : Int), .string ByteArray.empty]) rfl (HF.ev rfl) ((HS.out.box 0 rfl).sub 0 5) (by kernel_rfl)) ?_; clear HF a; intro a HF
      refine wl_callBg HF rfl rfl rfl rfl (enter_of Tryz.func11 (by kernel_rfl) rfl) (args := #[.agg #[.int .i64 4, .string (ws.getD 1 ByteArray.empty), .string ByteArray.empty, .int .i64 (n : Int), .string ByteArray.empty]]) rfl (v := .bool ((⟨4, (ws.getD 1 ByteArray.empty), ByteArray.empty, (n : Int), ByteArray.empty⟩ : OpD).ok)) (implOpOk_any (⟨4, (ws.getD 1 ByteArray.empty), ByteArray.empty, (n : Int), ByteArray.empty⟩ : OpD) _ (HM.out.below HS.out.bel) (by first | exact hz _ | exact Nat.zero_le _) (by first | exact hz _ | exact Nat.zero_le _) (by first | exact hz _ | exact Nat.zero_le _)) rfl rfl HS.out ?_; clear HF HS a; intro w33 a HS HF; replace HS := Bx.mk HS
      refine wl_yg HF rfl rfl rfl rfl rfl (yl_not rfl (HF.ev rfl)) ?_; clear HF a; intro a HF
      refine wl_y rfl HF rfl rfl (yl_pick_f rfl (HF.ev rfl) (HF.ev rfl)) ?_; clear HF a; intro a HF
      refine wl_ne ?_
      refine HF.cases 75 rfl (fun cc11 HF1 => ?_) (fun cc11 HF1 => ?_)
      ·clear HF; have HF := HF1; clear HF1
       refine wc_true HF rfl ?_
       refine wp_sr ?_
       refine wl_y rfl HF rfl rfl (yl_build HF rfl (ps := []) rfl (cs := #[.int .i64 0, .string ByteArray.empty, .string ByteArray.empty, .int .i64 0, .string ByteArray.empty]) (by kernel_rfl)) ?_; clear HF a; intro a HF
       refine wl_storeBox rfl HF rfl rfl (HF.ev rfl) (HF.ev rfl) HS.out 2 rfl (cells_lit [.int .i64 0, .string ByteArray.empty, .string ByteArray.empty, .int .i64 0, .string ByteArray.empty] rfl rfl) (by kernel_rfl) ?_; clear HS; intro w34 HS; replace HS := Bx.mk HS
       have HS : Bx (St w0 ([boxA b3 5 24 (.agg #[.int .i64 4, .string (ws.getD 1 ByteArray.empty), .string ByteArray.empty, .int .i64 (n : Int), .string ByteArray.empty]), rowA encS 1 9 (.slice (some ⟨g2, 0, none⟩) ws.length cp) ws, boxA b1 5 24 (.agg #[.int .i64 0, .string ByteArray.empty, .string ByteArray.empty, .int .i64 0, .string ByteArray.empty])]) _) := HS
       refine wl_as HF rfl rfl rfl rfl rfl ?_; clear HF a; intro a HF
       refine wl_ne ?_
       refine wp_ret ?_
       refine ex_then_ret ?_
       refine bp_ret2 HF Tryz.results8 (HF.resBox rfl (HS.out.box 2 rfl) (by kernel_rfl)) (HF.res rfl) ?_
       exact .inr ⟨(sh4 hkd (by omega) hng).trans (chk_no (by simpa using cc11)), rfl, HS.out.bel⟩
      ·clear HF; have HF := HF1; clear HF1
       refine wc_false HF rfl ?_
       refine wp_skip ?_
       refine ex_then ?_
       refine wp_sr ?_
       refine wl_y rfl HF rfl rfl (yl_loadR (cs := [.int .i64 4, .string (ws.getD 1 ByteArray.empty), .string ByteArray.empty, .int .i64 (n : Int), .string ByteArray.empty]) rfl (HF.ev rfl) ((HS.out.box 0 rfl).sub 0 5) (by kernel_rfl)) ?_; clear HF a; intro a HF
       refine wl_storeBox rfl HF rfl rfl (HF.ev rfl) (HF.ev rfl) HS.out 2 rfl (cells_lit [.int .i64 4, .string (ws.getD 1 ByteArray.empty), .string ByteArray.empty, .int .i64 (n : Int), .string ByteArray.empty] rfl rfl) (by kernel_rfl) ?_; clear HS; intro w35 HS; replace HS := Bx.mk HS
       have HS : Bx (St w0 ([boxA b3 5 24 (.agg #[.int .i64 4, .string (ws.getD 1 ByteArray.empty), .string ByteArray.empty, .int .i64 (n : Int), .string ByteArray.empty]), rowA encS 1 9 (.slice (some ⟨g2, 0, none⟩) ws.length cp) ws, boxA b1 5 24 (.agg #[.int .i64 4, .string (ws.getD 1 ByteArray.empty), .string ByteArray.empty, .int .i64 (n : Int), .string ByteArray.empty])]) _) := HS
       refine wl_as HF rfl rfl rfl rfl rfl ?_; clear HF a; intro a HF
       refine wl_ne ?_
       refine wp_ret ?_
       refine bp_ret2 HF Tryz.results8 (HF.resBox rfl (HS.out.box 2 rfl) (by kernel_rfl)) (HF.res rfl) ?_
       exact .inl ⟨⟨4, (ws.getD 1 ByteArray.empty), ByteArray.empty, (n : Int), ByteArray.empty⟩, (sh4 hkd (by omega) hng).trans (chk_yes (by simpa using cc11)), rfl, HS.out.bel⟩
     ·skip
      refine ⟨_, rfl, ?_⟩; replace HS := Bx.mk (HS.out.later hb); clear hb HF; clear a; intro a HF
      refine wl_mv HF rfl rfl rfl rfl rfl ?_; clear HF a; intro a HF
      refine wl_y rfl HF rfl rfl (yl_extract rfl (HF.ev rfl) rfl) ?_; clear HF a; intro a HF
      refine wl_y rfl HF rfl rfl (yl_extract rfl (HF.ev rfl) rfl) ?_; clear HF a; intro a HF
      refine wl_y rfl HF rfl rfl (yl_fieldAddr (j := 3) rfl (HF.ev rfl) (by kernel_rfl)) ?_; clear HF a; intro a HF
      refine wl_storeF rfl rfl rfl (HF.ev rfl) (HF.ev rfl) (by kernel_rfl) HS.out 0 rfl rfl rfl ?_; clear HS; intro w36 HS; replace HS := Bx.mk HS
      have HS : Bx (St w0 ([boxA b3 5 24 (.agg #[.int .i64 4, .string (ws.getD 1 ByteArray.empty), .string ByteArray.empty, .int .i64 0, .string ByteArray.empty]), rowA encS 1 9 (.slice (some ⟨g2, 0, none⟩) ws.length cp) ws, boxA b1 5 24 (.agg #[.int .i64 0, .string ByteArray.empty, .string ByteArray.empty, .int .i64 0, .string ByteArray.empty])]) _) := HS
      refine wl_as HF rfl rfl rfl rfl rfl ?_; clear HF a; intro a HF
      refine wpList_nil ?_
      refine ex_block ?_
      refine ex_then ?_
      refine wp_seq ?_
      refine wp_sr ?_
      refine wl_mv HF rfl rfl rfl rfl rfl ?_; clear HF a; intro a HF
      refine wl_y rfl HF rfl rfl (yl_not rfl (HF.ev rfl)) ?_; clear HF a; intro a HF
      refine wl_mv HF rfl rfl rfl rfl rfl ?_; clear HF a; intro a HF
      refine wl_skip HF rfl rfl rfl rfl rfl rfl ?_; clear HF a; intro a HF
      refine wl_skip HF rfl rfl rfl rfl rfl rfl ?_; clear HF a; intro a HF
      refine wl_skip HF rfl rfl rfl rfl rfl rfl ?_; clear HF a; intro a HF
      refine wl_y rfl HF rfl rfl (yl_pick_t rfl (HF.ev rfl) (HF.ev rfl)) ?_; clear HF a; intro a HF
      refine wl_ne ?_
      refine wc_true HF rfl ?_
      refine wp_sr ?_
      refine wl_y rfl HF rfl rfl (yl_build HF rfl (ps := []) rfl (cs := #[.int .i64 0, .string ByteArray.empty, .string ByteArray.empty, .int .i64 0, .string ByteArray.empty]) (by kernel_rfl)) ?_; clear HF a; intro a HF
      refine wl_storeBox rfl HF rfl rfl (HF.ev rfl) (HF.ev rfl) HS.out 2 rfl (cells_lit [.int .i64 0, .string ByteArray.empty, .string ByteArray.empty, .int .i64 0, .string ByteArray.empty] rfl rfl) (by kernel_rfl) ?_; clear HS; intro w37 HS; replace HS := Bx.mk HS
      have HS : Bx (St w0 ([boxA b3 5 24 (.agg #[.int .i64 4, .string (ws.getD 1 ByteArray.empty), .string ByteArray.empty, .int .i64 0, .string ByteArray.empty]), rowA encS 1 9 (.slice (some ⟨g2, 0, none⟩) ws.length cp) ws, boxA b1 5 24 (.agg #[.int .i64 0, .string ByteArray.empty, .string ByteArray.empty, .int .i64 0, .string ByteArray.empty])]) _) := HS
      refine wl_as HF rfl rfl rfl rfl rfl ?_; clear HF a; intro a HF
      refine wl_ne ?_
      refine wp_ret ?_
      refine ex_then_ret ?_
      refine bp_ret2 HF Tryz.results8 (HF.resBox rfl (HS.out.box 2 rfl) (by kernel_rfl)) (HF.res rfl) ?_
      exact .inr ⟨sh4n hkd hng, rfl, HS.out.bel⟩
   ·skip
    refine wp_region_lit ?_
    refine wl_as HF rfl rfl rfl rfl rfl ?_; clear HF a; intro a HF
    refine wl_ne ?_
    refine wp_seq ?_
    refine wp_sr ?_
    refine wl_y rfl HF rfl rfl (yl_fieldAddr (j := 0) rfl (HF.ev rfl) (by kernel_rfl)) ?_; clear HF a; intro a HF
    refine wl_y rfl HF rfl rfl (yl_load (v := .int .i64 5) rfl (HF.ev rfl) (((HS.out.box 0 rfl).cell 0).trans rfl) (by kernel_rfl)) ?_; clear HF a; intro a HF
    refine wl_ne ?_
    refine wp_block ?_
    refine wp_sr ?_
    refine wl_y rfl HF rfl rfl (yl_eqlI rfl (HF.ev rfl) (HF.ev rfl)) ?_; clear HF a; intro a HF
    refine wl_as HF rfl rfl rfl rfl rfl ?_; clear HF a; intro a HF
    refine wl_ne ?_
    replace HF := HF.know (k := 25) (c := false) rfl (by decide)
    refine wc_false HF rfl ?_
    refine wp_seq ?_
    refine wp_sr ?_
    refine wl_y rfl HF rfl rfl (yl_eqlI rfl (HF.ev rfl) (HF.ev rfl)) ?_; clear HF a; intro a HF
    refine wl_as HF rfl rfl rfl rfl rfl ?_; clear HF a; intro a HF
    refine wl_ne ?_
    replace HF := HF.know (k := 27) (c := false) rfl (by decide)
    refine wc_false HF rfl ?_
    refine wp_sr ?_
    refine wl_y rfl HF rfl rfl (yl_eqlI rfl (HF.ev rfl) (HF.ev rfl)) ?_; clear HF a; intro a HF
    refine wl_as HF rfl rfl rfl rfl rfl ?_; clear HF a; intro a HF
    refine wl_ne ?_
    replace HF := HF.know (k := 27) (c := false) rfl (by decide)
    refine wc_false HF rfl ?_
    refine wp_region_lit ?_
    refine wl_y rfl HF rfl rfl (yl_eqlI rfl (HF.ev rfl) (HF.ev rfl)) ?_; clear HF a; intro a HF
    refine wl_as HF rfl rfl rfl rfl rfl ?_; clear HF a; intro a HF
    refine wl_ne ?_
    replace HF := HF.know (k := 27) (c := false) rfl (by decide)
    refine wc_false HF rfl ?_
    refine wp_skip ?_
    refine ex_block ?_
    refine ex_then ?_
    refine wp_seq ?_
    refine wp_sr ?_
    refine wl_mv HF rfl rfl rfl rfl rfl ?_; clear HF a; intro a HF
    refine wl_y rfl HF rfl rfl (yl_lenL (e := 9) (size := 1) rfl (HF.ev rfl) (by kernel_rfl)) ?_; clear HF a; intro a HF
    refine wl_mv HF rfl rfl rfl rfl rfl ?_; clear HF a; intro a HF
    refine wl_y rfl HF rfl rfl (yl_neqI rfl (HF.ev rfl) (HF.ev rfl)) ?_; clear HF a; intro a HF
    refine wl_ne ?_
    refine HF.cases 34 rfl (fun cc12 HF1 => ?_) (fun cc12 HF1 => ?_)
    ·clear HF; have HF := HF1; clear HF1
     have dcc12 := bne_iff_ne.1 cc12
     refine wc_true HF rfl ?_
     refine wp_sr ?_
     refine wl_y rfl HF rfl rfl (yl_build HF rfl (ps := []) rfl (cs := #[.int .i64 0, .string ByteArray.empty, .string ByteArray.empty, .int .i64 0, .string ByteArray.empty]) (by kernel_rfl)) ?_; clear HF a; intro a HF
     refine wl_storeBox rfl HF rfl rfl (HF.ev rfl) (HF.ev rfl) HS.out 2 rfl (cells_lit [.int .i64 0, .string ByteArray.empty, .string ByteArray.empty, .int .i64 0, .string ByteArray.empty] rfl rfl) (by kernel_rfl) ?_; clear HS; intro w38 HS; replace HS := Bx.mk HS
     have HS : Bx (St w0 ([boxA b3 5 24 (.agg #[.int .i64 5, .string (ws.getD 1 ByteArray.empty), .string ByteArray.empty, .int .i64 0, .string ByteArray.empty]), rowA encS 1 9 (.slice (some ⟨g2, 0, none⟩) ws.length cp) ws, boxA b1 5 24 (.agg #[.int .i64 0, .string ByteArray.empty, .string ByteArray.empty, .int .i64 0, .string ByteArray.empty])]) _) := HS
     refine wl_as HF rfl rfl rfl rfl rfl ?_; clear HF a; intro a HF
     refine wl_ne ?_
     refine wp_ret ?_
     refine ex_then_ret ?_
     refine bp_ret2 HF Tryz.results8 (HF.resBox rfl (HS.out.box 2 rfl) (by kernel_rfl)) (HF.res rfl) ?_
     exact .inr ⟨sh1l hkd (by omega) (by omega), rfl, HS.out.bel⟩
    ·clear HF; have HF := HF1; clear HF1
     have dcc12 := bne_eq_false_iff_eq.1 cc12
     refine wc_false HF rfl ?_
     refine wp_skip ?_
     refine ex_then ?_
     refine wp_seq ?_
     refine wp_sr ?_
     refine wl_y rfl HF rfl rfl (yl_fieldAddr (j := 0) rfl (HF.ev rfl) (by kernel_rfl)) ?_; clear HF a; intro a HF
     refine wl_y rfl HF rfl rfl (yl_load (v := .int .i64 5) rfl (HF.ev rfl) (((HS.out.box 0 rfl).cell 0).trans rfl) (by kernel_rfl)) ?_; clear HF a; intro a HF
     refine wl_ne ?_
     refine wp_block ?_
     refine wp_sr ?_
     refine wl_y rfl HF rfl rfl (yl_eqlI rfl (HF.ev rfl) (HF.ev rfl)) ?_; clear HF a; intro a HF
     refine wl_as HF rfl rfl rfl rfl rfl ?_; clear HF a; intro a HF
     refine wl_ne ?_
     replace HF := HF.know (k := 38) (c := false) rfl (by decide)
     refine wc_false HF rfl ?_
     refine wp_sr ?_
     refine wl_y rfl HF rfl rfl (yl_eqlI rfl (HF.ev rfl) (HF.ev rfl)) ?_; clear HF a; intro a HF
     refine wl_as HF rfl rfl rfl rfl rfl ?_; clear HF a; intro a HF
     refine wl_ne ?_
     replace HF := HF.know (k := 52) (c := false) rfl (by decide)
     refine wc_false HF rfl ?_
     refine wp_seq ?_
     refine wp_sr ?_
     refine wl_y rfl HF rfl rfl (yl_eqlI rfl (HF.ev rfl) (HF.ev rfl)) ?_; clear HF a; intro a HF
     refine wl_as HF rfl rfl rfl rfl rfl ?_; clear HF a; intro a HF
     refine wl_ne ?_
     replace HF := HF.know (k := 62) (c := false) rfl (by decide)
     refine wc_false HF rfl ?_
     refine wp_region_lit ?_
     refine wl_y rfl HF rfl rfl (yl_eqlI rfl (HF.ev rfl) (HF.ev rfl)) ?_; clear HF a; intro a HF
     refine wl_as HF rfl rfl rfl rfl rfl ?_; clear HF a; intro a HF
     refine wl_ne ?_
     replace HF := HF.know (k := 62) (c := false) rfl (by decide)
     refine wc_false HF rfl ?_
     refine wp_skip ?_
     refine ex_block ?_
     refine ex_then ?_
     refine wp_seq ?_
     refine wp_sr ?_
     refine wl_mv HF rfl rfl rfl rfl rfl ?_; clear HF a; intro a HF
     refine wl_y rfl HF rfl rfl (yl_not rfl (HF.ev rfl)) ?_; clear HF a; intro a HF
     refine wl_mv HF rfl rfl rfl rfl rfl ?_; clear HF a; intro a HF
     refine wl_yg HF rfl rfl rfl rfl rfl (yl_loadR (cs := [.int .i64 5, .string (ws.getD 1 ByteArray.empty), .string ByteArray.empty, .int .i64 0, .string ByteArray.empty]) rfl (HF.ev rfl) ((HS.out.box 0 rfl).sub 0 5) (by kernel_rfl)) ?_; clear HF a; intro a HF
     refine wl_callBg HF rfl rfl rfl rfl (enter_of Tryz.func11 (by kernel_rfl) rfl) (args := #[.agg #[.int .i64 5, .string (ws.getD 1 ByteArray.empty), .string ByteArray.empty, .int .i64 0, .string ByteArray.empty]]) rfl (v := .bool ((⟨5, (ws.getD 1 ByteArray.empty), ByteArray.empty, 0, ByteArray.empty⟩ : OpD).ok)) (implOpOk_any (⟨5, (ws.getD 1 ByteArray.empty), ByteArray.empty, 0, ByteArray.empty⟩ : OpD) _ (HM.out.below HS.out.bel) (by first | exact hz _ | exact Nat.zero_le _) (by first | exact hz _ | exact Nat.zero_le _) (by first | exact hz _ | exact Nat.zero_le _)) rfl rfl HS.out ?_; clear HF HS a; intro w39 a HS HF; replace HS := Bx.mk HS
     refine wl_yg HF rfl rfl rfl rfl rfl (yl_not rfl (HF.ev rfl)) ?_; clear HF a; intro a HF
     refine wl_y rfl HF rfl rfl (yl_pick_f rfl (HF.ev rfl) (HF.ev rfl)) ?_; clear HF a; intro a HF
     refine wl_ne ?_
     refine HF.cases 75 rfl (fun cc13 HF1 => ?_) (fun cc13 HF1 => ?_)
     ·clear HF; have HF := HF1; clear HF1
      refine wc_true HF rfl ?_
      refine wp_sr ?_
      refine wl_y rfl HF rfl rfl (yl_build HF rfl (ps := []) rfl (cs := #[.int .i64 0, .string ByteArray.empty, .string ByteArray.empty, .int .i64 0, .string ByteArray.empty]) (by kernel_rfl)) ?_; clear HF a; intro a HF
      refine wl_storeBox rfl HF rfl rfl (HF.ev rfl) (HF.ev rfl) HS.out 2 rfl (cells_lit [.int .i64 0, .string ByteArray.empty, .string ByteArray.empty, .int .i64 0, .string ByteArray.empty] rfl rfl) (by kernel_rfl) ?_; clear HS; intro w40 HS; replace HS := Bx.mk HS
      have HS : Bx (St w0 ([boxA b3 5 24 (.agg #[.int .i64 5, .string (ws.getD 1 ByteArray.empty), .string ByteArray.empty, .int .i64 0, .string ByteArray.empty]), rowA encS 1 9 (.slice (some ⟨g2, 0, none⟩) ws.length cp) ws, boxA b1 5 24 (.agg #[.int .i64 0, .string ByteArray.empty, .string ByteArray.empty, .int .i64 0, .string ByteArray.empty])]) _) := HS
      refine wl_as HF rfl rfl rfl rfl rfl ?_; clear HF a; intro a HF
      refine wl_ne ?_
      refine wp_ret ?_
      refine ex_then_ret ?_
      refine bp_ret2 HF Tryz.results8 (HF.resBox rfl (HS.out.box 2 rfl) (by kernel_rfl)) (HF.res rfl) ?_
      exact .inr ⟨(sh1 hkd (by omega) (by omega)).trans (chk_no (by simpa using cc13)), rfl, HS.out.bel⟩
     ·clear HF; have HF := HF1; clear HF1
      refine wc_false HF rfl ?_
      refine wp_skip ?_
      refine ex_then ?_
      refine wp_sr ?_
      refine wl_y rfl HF rfl rfl (yl_loadR (cs := [.int .i64 5, .string (ws.getD 1 ByteArray.empty), .string ByteArray.empty, .int .i64 0, .string ByteArray.empty]) rfl (HF.ev rfl) ((HS.out.box 0 rfl).sub 0 5) (by kernel_rfl)) ?_; clear HF a; intro a HF
      refine wl_storeBox rfl HF rfl rfl (HF.ev rfl) (HF.ev rfl) HS.out 2 rfl (cells_lit [.int .i64 5, .string (ws.getD 1 ByteArray.empty), .string ByteArray.empty, .int .i64 0, .string ByteArray.empty] rfl rfl) (by kernel_rfl) ?_; clear HS; intro w41 HS; replace HS := Bx.mk HS
      have HS : Bx (St w0 ([boxA b3 5 24 (.agg #[.int .i64 5, .string (ws.getD 1 ByteArray.empty), .string ByteArray.empty, .int .i64 0, .string ByteArray.empty]), rowA encS 1 9 (.slice (some ⟨g2, 0, none⟩) ws.length cp) ws, boxA b1 5 24 (.agg #[.int .i64 5, .string (ws.getD 1 ByteArray.empty), .string ByteArray.empty, .int .i64 0, .string ByteArray.empty])]) _) := HS
      refine wl_as HF rfl rfl rfl rfl rfl ?_; clear HF a; intro a HF
      refine wl_ne ?_
      refine wp_ret ?_
      refine bp_ret2 HF Tryz.results8 (HF.resBox rfl (HS.out.box 2 rfl) (by kernel_rfl)) (HF.res rfl) ?_
      exact .inl ⟨⟨5, (ws.getD 1 ByteArray.empty), ByteArray.empty, 0, ByteArray.empty⟩, (sh1 hkd (by omega) (by omega)).trans (chk_yes (by simpa using cc13)), rfl, HS.out.bel⟩
   ·skip
    refine wp_region_lit ?_
    refine wl_as HF rfl rfl rfl rfl rfl ?_; clear HF a; intro a HF
    refine wl_ne ?_
    refine wp_seq ?_
    refine wp_sr ?_
    refine wl_y rfl HF rfl rfl (yl_fieldAddr (j := 0) rfl (HF.ev rfl) (by kernel_rfl)) ?_; clear HF a; intro a HF
    refine wl_y rfl HF rfl rfl (yl_load (v := .int .i64 6) rfl (HF.ev rfl) (((HS.out.box 0 rfl).cell 0).trans rfl) (by kernel_rfl)) ?_; clear HF a; intro a HF
    refine wl_ne ?_
    refine wp_block ?_
    refine wp_sr ?_
    refine wl_y rfl HF rfl rfl (yl_eqlI rfl (HF.ev rfl) (HF.ev rfl)) ?_; clear HF a; intro a HF
    refine wl_as HF rfl rfl rfl rfl rfl ?_; clear HF a; intro a HF
    refine wl_ne ?_
    replace HF := HF.know (k := 25) (c := false) rfl (by decide)
    refine wc_false HF rfl ?_
    refine wp_seq ?_
    refine wp_sr ?_
    refine wl_y rfl HF rfl rfl (yl_eqlI rfl (HF.ev rfl) (HF.ev rfl)) ?_; clear HF a; intro a HF
    refine wl_as HF rfl rfl rfl rfl rfl ?_; clear HF a; intro a HF
    refine wl_ne ?_
    replace HF := HF.know (k := 27) (c := false) rfl (by decide)
    refine wc_false HF rfl ?_
    refine wp_sr ?_
    refine wl_y rfl HF rfl rfl (yl_eqlI rfl (HF.ev rfl) (HF.ev rfl)) ?_; clear HF a; intro a HF
    refine wl_as HF rfl rfl rfl rfl rfl ?_; clear HF a; intro a HF
    refine wl_ne ?_
    replace HF := HF.know (k := 27) (c := true) rfl (by decide)
    refine wc_true HF rfl ?_
    refine wp_skip ?_
    refine ex_then ?_
    refine wc_true HF rfl ?_
    refine wp_region_lit ?_
    refine wl_as HF rfl rfl rfl rfl rfl ?_; clear HF a; intro a HF
    refine wpList_nil ?_
    refine ex_block ?_
    refine ex_then ?_
    refine wp_seq ?_
    refine wp_sr ?_
    refine wl_mv HF rfl rfl rfl rfl rfl ?_; clear HF a; intro a HF
    refine wl_y rfl HF rfl rfl (yl_lenL (e := 9) (size := 1) rfl (HF.ev rfl) (by kernel_rfl)) ?_; clear HF a; intro a HF
    refine wl_mv HF rfl rfl rfl rfl rfl ?_; clear HF a; intro a HF
    refine wl_y rfl HF rfl rfl (yl_neqI rfl (HF.ev rfl) (HF.ev rfl)) ?_; clear HF a; intro a HF
    refine wl_ne ?_
    refine HF.cases 34 rfl (fun cc14 HF1 => ?_) (fun cc14 HF1 => ?_)
    ·clear HF; have HF := HF1; clear HF1
     have dcc14 := bne_iff_ne.1 cc14
     refine wc_true HF rfl ?_
     refine wp_sr ?_
     refine wl_y rfl HF rfl rfl (yl_build HF rfl (ps := []) rfl (cs := #[.int .i64 0, .string ByteArray.empty, .string ByteArray.empty, .int .i64 0, .string ByteArray.empty]) (by kernel_rfl)) ?_; clear HF a; intro a HF
     refine wl_storeBox rfl HF rfl rfl (HF.ev rfl) (HF.ev rfl) HS.out 2 rfl (cells_lit [.int .i64 0, .string ByteArray.empty, .string ByteArray.empty, .int .i64 0, .string ByteArray.empty] rfl rfl) (by kernel_rfl) ?_; clear HS; intro w42 HS; replace HS := Bx.mk HS
     have HS : Bx (St w0 ([boxA b3 5 24 (.agg #[.int .i64 6, .string (ws.getD 1 ByteArray.empty), .string ByteArray.empty, .int .i64 0, .string ByteArray.empty]), rowA encS 1 9 (.slice (some ⟨g2, 0, none⟩) ws.length cp) ws, boxA b1 5 24 (.agg #[.int .i64 0, .string ByteArray.empty, .string ByteArray.empty, .int .i64 0, .string ByteArray.empty])]) _) := HS
     refine wl_as HF rfl rfl rfl rfl rfl ?_; clear HF a; intro a HF
     refine wl_ne ?_
     refine wp_ret ?_
     refine ex_then_ret ?_
     refine bp_ret2 HF Tryz.results8 (HF.resBox rfl (HS.out.box 2 rfl) (by kernel_rfl)) (HF.res rfl) ?_
     exact .inr ⟨sh6l hkd (by omega) (by omega), rfl, HS.out.bel⟩
    ·clear HF; have HF := HF1; clear HF1
     have dcc14 := bne_eq_false_iff_eq.1 cc14
     refine wc_false HF rfl ?_
     refine wp_skip ?_
     refine ex_then ?_
     refine wp_seq ?_
     refine wp_sr ?_
     refine wl_y rfl HF rfl rfl (yl_fieldAddr (j := 0) rfl (HF.ev rfl) (by kernel_rfl)) ?_; clear HF a; intro a HF
     refine wl_y rfl HF rfl rfl (yl_load (v := .int .i64 6) rfl (HF.ev rfl) (((HS.out.box 0 rfl).cell 0).trans rfl) (by kernel_rfl)) ?_; clear HF a; intro a HF
     refine wl_ne ?_
     refine wp_block ?_
     refine wp_sr ?_
     refine wl_y rfl HF rfl rfl (yl_eqlI rfl (HF.ev rfl) (HF.ev rfl)) ?_; clear HF a; intro a HF
     refine wl_as HF rfl rfl rfl rfl rfl ?_; clear HF a; intro a HF
     refine wl_ne ?_
     replace HF := HF.know (k := 38) (c := false) rfl (by decide)
     refine wc_false HF rfl ?_
     refine wp_sr ?_
     refine wl_y rfl HF rfl rfl (yl_eqlI rfl (HF.ev rfl) (HF.ev rfl)) ?_; clear HF a; intro a HF
     refine wl_as HF rfl rfl rfl rfl rfl ?_; clear HF a; intro a HF
     refine wl_ne ?_
     replace HF := HF.know (k := 52) (c := false) rfl (by decide)
     refine wc_false HF rfl ?_
     refine wp_seq ?_
     refine wp_sr ?_
     refine wl_y rfl HF rfl rfl (yl_eqlI rfl (HF.ev rfl) (HF.ev rfl)) ?_; clear HF a; intro a HF
     refine wl_as HF rfl rfl rfl rfl rfl ?_; clear HF a; intro a HF
     refine wl_ne ?_
     replace HF := HF.know (k := 62) (c := true) rfl (by decide)
     refine wc_true HF rfl ?_
     refine wp_skip ?_
     refine ex_then ?_
     refine wc_true HF rfl ?_
     refine wp_region_lit ?_
     refine wl_mv HF rfl rfl rfl rfl rfl ?_; clear HF a; intro a HF
     refine wl_y rfl HF rfl rfl (yl_indexAddr (e := 9) (i := 2) (size := 1) rfl (HF.ev rfl) (HF.ev rfl) (by kernel_rfl) rfl (by omega)) ?_; clear HF a; intro a HF
     refine wl_y rfl HF rfl rfl (yl_load (v := .string (ws.getD 2 ByteArray.empty)) rfl (HF.ev rfl) (HS.out.elem1 encS_len 1 rfl (get_getD (xs := ws) (j := 2) (d := ByteArray.empty) (by omega)) rfl) (by kernel_rfl)) ?_; clear HF a; intro a HF
     refine wl_y rfl HF rfl rfl (yl_fieldAddr (j := 2) rfl (HF.ev rfl) (by kernel_rfl)) ?_; clear HF a; intro a HF
     refine wl_storeF rfl rfl rfl (HF.ev rfl) (HF.ev rfl) (by kernel_rfl) HS.out 0 rfl rfl rfl ?_; clear HS; intro w43 HS; replace HS := Bx.mk HS
     have HS : Bx (St w0 ([boxA b3 5 24 (.agg #[.int .i64 6, .string (ws.getD 1 ByteArray.empty), .string (ws.getD 2 ByteArray.empty), .int .i64 0, .string ByteArray.empty]), rowA encS 1 9 (.slice (some ⟨g2, 0, none⟩) ws.length cp) ws, boxA b1 5 24 (.agg #[.int .i64 0, .string ByteArray.empty, .string ByteArray.empty, .int .i64 0, .string ByteArray.empty])]) _) := HS
     refine wpList_nil ?_
     refine ex_block ?_
     refine ex_then ?_
     refine wp_seq ?_
     refine wp_sr ?_
     refine wl_mv HF rfl rfl rfl rfl rfl ?_; clear HF a; intro a HF
     refine wl_y rfl HF rfl rfl (yl_not rfl (HF.ev rfl)) ?_; clear HF a; intro a HF
     refine wl_mv HF rfl rfl rfl rfl rfl ?_; clear HF a; intro a HF
     refine wl_yg HF rfl rfl rfl rfl rfl (yl_loadR (cs := [.int .i64 6, .string (ws.getD 1 ByteArray.empty), .string (ws.getD 2 ByteArray.empty), .int .i64 0, .string ByteArray.empty]) rfl (HF.ev rfl) ((HS.out.box 0 rfl).sub 0 5) (by kernel_rfl)) ?_; clear HF a; intro a HF
     refine wl_callBg HF rfl rfl rfl rfl (enter_of Tryz.func11 (by kernel_rfl) rfl) (args := #[.agg #[.int .i64 6, .string (ws.getD 1 ByteArray.empty), .string (ws.getD 2 ByteArray.empty), .int .i64 0, .string ByteArray.empty]]) rfl (v := .bool ((⟨6, (ws.getD 1 ByteArray.empty), (ws.getD 2 ByteArray.empty), 0, ByteArray.empty⟩ : OpD).ok)) (implOpOk_any (⟨6, (ws.getD 1 ByteArray.empty), (ws.getD 2 ByteArray.empty), 0, ByteArray.empty⟩ : OpD) _ (HM.out.below HS.out.bel) (by first | exact hz _ | exact Nat.zero_le _) (by first | exact hz _ | exact Nat.zero_le _) (by first | exact hz _ | exact Nat.zero_le _)) rfl rfl HS.out ?_; clear HF HS a; intro w44 a HS HF; replace HS := Bx.mk HS
     refine wl_yg HF rfl rfl rfl rfl rfl (yl_not rfl (HF.ev rfl)) ?_; clear HF a; intro a HF
     refine wl_y rfl HF rfl rfl (yl_pick_f rfl (HF.ev rfl) (HF.ev rfl)) ?_; clear HF a; intro a HF
     refine wl_ne ?_
     refine HF.cases 75 rfl (fun cc15 HF1 => ?_) (fun cc15 HF1 => ?_)
     ·clear HF; have HF := HF1; clear HF1
      refine wc_true HF rfl ?_
      refine wp_sr ?_
      refine wl_y rfl HF rfl rfl (yl_build HF rfl (ps := []) rfl (cs := #[.int .i64 0, .string ByteArray.empty, .string ByteArray.empty, .int .i64 0, .string ByteArray.empty]) (by kernel_rfl)) ?_; clear HF a; intro a HF
      refine wl_storeBox rfl HF rfl rfl (HF.ev rfl) (HF.ev rfl) HS.out 2 rfl (cells_lit [.int .i64 0, .string ByteArray.empty, .string ByteArray.empty, .int .i64 0, .string ByteArray.empty] rfl rfl) (by kernel_rfl) ?_; clear HS; intro w45 HS; replace HS := Bx.mk HS
      have HS : Bx (St w0 ([boxA b3 5 24 (.agg #[.int .i64 6, .string (ws.getD 1 ByteArray.empty), .string (ws.getD 2 ByteArray.empty), .int .i64 0, .string ByteArray.empty]), rowA encS 1 9 (.slice (some ⟨g2, 0, none⟩) ws.length cp) ws, boxA b1 5 24 (.agg #[.int .i64 0, .string ByteArray.empty, .string ByteArray.empty, .int .i64 0, .string ByteArray.empty])]) _) := HS
      refine wl_as HF rfl rfl rfl rfl rfl ?_; clear HF a; intro a HF
      refine wl_ne ?_
      refine wp_ret ?_
      refine ex_then_ret ?_
      refine bp_ret2 HF Tryz.results8 (HF.resBox rfl (HS.out.box 2 rfl) (by kernel_rfl)) (HF.res rfl) ?_
      exact .inr ⟨(sh6 hkd (by omega) (by omega)).trans (chk_no (by simpa using cc15)), rfl, HS.out.bel⟩
     ·clear HF; have HF := HF1; clear HF1
      refine wc_false HF rfl ?_
      refine wp_skip ?_
      refine ex_then ?_
      refine wp_sr ?_
      refine wl_y rfl HF rfl rfl (yl_loadR (cs := [.int .i64 6, .string (ws.getD 1 ByteArray.empty), .string (ws.getD 2 ByteArray.empty), .int .i64 0, .string ByteArray.empty]) rfl (HF.ev rfl) ((HS.out.box 0 rfl).sub 0 5) (by kernel_rfl)) ?_; clear HF a; intro a HF
      refine wl_storeBox rfl HF rfl rfl (HF.ev rfl) (HF.ev rfl) HS.out 2 rfl (cells_lit [.int .i64 6, .string (ws.getD 1 ByteArray.empty), .string (ws.getD 2 ByteArray.empty), .int .i64 0, .string ByteArray.empty] rfl rfl) (by kernel_rfl) ?_; clear HS; intro w46 HS; replace HS := Bx.mk HS
      have HS : Bx (St w0 ([boxA b3 5 24 (.agg #[.int .i64 6, .string (ws.getD 1 ByteArray.empty), .string (ws.getD 2 ByteArray.empty), .int .i64 0, .string ByteArray.empty]), rowA encS 1 9 (.slice (some ⟨g2, 0, none⟩) ws.length cp) ws, boxA b1 5 24 (.agg #[.int .i64 6, .string (ws.getD 1 ByteArray.empty), .string (ws.getD 2 ByteArray.empty), .int .i64 0, .string ByteArray.empty])]) _) := HS
      refine wl_as HF rfl rfl rfl rfl rfl ?_; clear HF a; intro a HF
      refine wl_ne ?_
      refine wp_ret ?_
      refine bp_ret2 HF Tryz.results8 (HF.resBox rfl (HS.out.box 2 rfl) (by kernel_rfl)) (HF.res rfl) ?_
      exact .inl ⟨⟨6, (ws.getD 1 ByteArray.empty), (ws.getD 2 ByteArray.empty), 0, ByteArray.empty⟩, (sh6 hkd (by omega) (by omega)).trans (chk_yes (by simpa using cc15)), rfl, HS.out.bel⟩
   ·skip
    refine wp_region_lit ?_
    refine wl_as HF rfl rfl rfl rfl rfl ?_; clear HF a; intro a HF
    refine wl_ne ?_
    refine wp_seq ?_
    refine wp_sr ?_
    refine wl_y rfl HF rfl rfl (yl_fieldAddr (j := 0) rfl (HF.ev rfl) (by kernel_rfl)) ?_; clear HF a; intro a HF
    refine wl_y rfl HF rfl rfl (yl_load (v := .int .i64 7) rfl (HF.ev rfl) (((HS.out.box 0 rfl).cell 0).trans rfl) (by kernel_rfl)) ?_; clear HF a; intro a HF
    refine wl_ne ?_
    refine wp_block ?_
    refine wp_sr ?_
    refine wl_y rfl HF rfl rfl (yl_eqlI rfl (HF.ev rfl) (HF.ev rfl)) ?_; clear HF a; intro a HF
    refine wl_as HF rfl rfl rfl rfl rfl ?_; clear HF a; intro a HF
    refine wl_ne ?_
    replace HF := HF.know (k := 25) (c := false) rfl (by decide)
    refine wc_false HF rfl ?_
    refine wp_seq ?_
    refine wp_sr ?_
    refine wl_y rfl HF rfl rfl (yl_eqlI rfl (HF.ev rfl) (HF.ev rfl)) ?_; clear HF a; intro a HF
    refine wl_as HF rfl rfl rfl rfl rfl ?_; clear HF a; intro a HF
    refine wl_ne ?_
    replace HF := HF.know (k := 27) (c := false) rfl (by decide)
    refine wc_false HF rfl ?_
    refine wp_sr ?_
    refine wl_y rfl HF rfl rfl (yl_eqlI rfl (HF.ev rfl) (HF.ev rfl)) ?_; clear HF a; intro a HF
    refine wl_as HF rfl rfl rfl rfl rfl ?_; clear HF a; intro a HF
    refine wl_ne ?_
    replace HF := HF.know (k := 27) (c := false) rfl (by decide)
    refine wc_false HF rfl ?_
    refine wp_region_lit ?_
    refine wl_y rfl HF rfl rfl (yl_eqlI rfl (HF.ev rfl) (HF.ev rfl)) ?_; clear HF a; intro a HF
    refine wl_as HF rfl rfl rfl rfl rfl ?_; clear HF a; intro a HF
    refine wl_ne ?_
    replace HF := HF.know (k := 27) (c := true) rfl (by decide)
    refine wc_true HF rfl ?_
    refine wp_region_lit ?_
    refine wl_as HF rfl rfl rfl rfl rfl ?_; clear HF a; intro a HF
    refine wpList_nil ?_
    refine ex_block ?_
    refine ex_then ?_
    refine wp_seq ?_
    refine wp_sr ?_
    refine wl_mv HF rfl rfl rfl rfl rfl ?_; clear HF a; intro a HF
    refine wl_y rfl HF rfl rfl (yl_lenL (e := 9) (size := 1) rfl (HF.ev rfl) (by kernel_rfl)) ?_; clear HF a; intro a HF
    refine wl_mv HF rfl rfl rfl rfl rfl ?_; clear HF a; intro a HF
    refine wl_y rfl HF rfl rfl (yl_neqI rfl (HF.ev rfl) (HF.ev rfl)) ?_; clear HF a; intro a HF
    refine wl_ne ?_
    refine HF.cases 34 rfl (fun cc16 HF1 => ?_) (fun cc16 HF1 => ?_)
    ·clear HF; have HF := HF1; clear HF1
     have dcc16 := bne_iff_ne.1 cc16
     refine wc_true HF rfl ?_
     refine wp_sr ?_
     refine wl_y rfl HF rfl rfl (yl_build HF rfl (ps := []) rfl (cs := #[.int .i64 0, .string ByteArray.empty, .string ByteArray.empty, .int .i64 0, .string ByteArray.empty]) (by kernel_rfl)) ?_; clear HF a; intro a HF
     refine wl_storeBox rfl HF rfl rfl (HF.ev rfl) (HF.ev rfl) HS.out 2 rfl (cells_lit [.int .i64 0, .string ByteArray.empty, .string ByteArray.empty, .int .i64 0, .string ByteArray.empty] rfl rfl) (by kernel_rfl) ?_; clear HS; intro w47 HS; replace HS := Bx.mk HS
     have HS : Bx (St w0 ([boxA b3 5 24 (.agg #[.int .i64 7, .string (ws.getD 1 ByteArray.empty), .string ByteArray.empty, .int .i64 0, .string ByteArray.empty]), rowA encS 1 9 (.slice (some ⟨g2, 0, none⟩) ws.length cp) ws, boxA b1 5 24 (.agg #[.int .i64 0, .string ByteArray.empty, .string ByteArray.empty, .int .i64 0, .string ByteArray.empty])]) _) := HS
     refine wl_as HF rfl rfl rfl rfl rfl ?_; clear HF a; intro a HF
     refine wl_ne ?_
     refine wp_ret ?_
     refine ex_then_ret ?_
     refine bp_ret2 HF Tryz.results8 (HF.resBox rfl (HS.out.box 2 rfl) (by kernel_rfl)) (HF.res rfl) ?_
     exact .inr ⟨sh6l hkd (by omega) (by omega), rfl, HS.out.bel⟩
    ·clear HF; have HF := HF1; clear HF1
     have dcc16 := bne_eq_false_iff_eq.1 cc16
     refine wc_false HF rfl ?_
     refine wp_skip ?_
     refine ex_then ?_
     refine wp_seq ?_
     refine wp_sr ?_
     refine wl_y rfl HF rfl rfl (yl_fieldAddr (j := 0) rfl (HF.ev rfl) (by kernel_rfl)) ?_; clear HF a; intro a HF
     refine wl_y rfl HF rfl rfl (yl_load (v := .int .i64 7) rfl (HF.ev rfl) (((HS.out.box 0 rfl).cell 0).trans rfl) (by kernel_rfl)) ?_; clear HF a; intro a HF
     refine wl_ne ?_
     refine wp_block ?_
     refine wp_sr ?_
     refine wl_y rfl HF rfl rfl (yl_eqlI rfl (HF.ev rfl) (HF.ev rfl)) ?_; clear HF a; intro a HF
     refine wl_as HF rfl rfl rfl rfl rfl ?_; clear HF a; intro a HF
     refine wl_ne ?_
     replace HF := HF.know (k := 38) (c := false) rfl (by decide)
     refine wc_false HF rfl ?_
     refine wp_sr ?_
     refine wl_y rfl HF rfl rfl (yl_eqlI rfl (HF.ev rfl) (HF.ev rfl)) ?_; clear HF a; intro a HF
     refine wl_as HF rfl rfl rfl rfl rfl ?_; clear HF a; intro a HF
     refine wl_ne ?_
     replace HF := HF.know (k := 52) (c := false) rfl (by decide)
     refine wc_false HF rfl ?_
     refine wp_seq ?_
     refine wp_sr ?_
     refine wl_y rfl HF rfl rfl (yl_eqlI rfl (HF.ev rfl) (HF.ev rfl)) ?_; clear HF a; intro a HF
     refine wl_as HF rfl rfl rfl rfl rfl ?_; clear HF a; intro a HF
     refine wl_ne ?_
     replace HF := HF.know (k := 62) (c := false) rfl (by decide)
     refine wc_false HF rfl ?_
     refine wp_region_lit ?_
     refine wl_y rfl HF rfl rfl (yl_eqlI rfl (HF.ev rfl) (HF.ev rfl)) ?_; clear HF a; intro a HF
     refine wl_as HF rfl rfl rfl rfl rfl ?_; clear HF a; intro a HF
     refine wl_ne ?_
     replace HF := HF.know (k := 62) (c := true) rfl (by decide)
     refine wc_true HF rfl ?_
     refine wp_region_lit ?_
     refine wl_mv HF rfl rfl rfl rfl rfl ?_; clear HF a; intro a HF
     refine wl_y rfl HF rfl rfl (yl_indexAddr (e := 9) (i := 2) (size := 1) rfl (HF.ev rfl) (HF.ev rfl) (by kernel_rfl) rfl (by omega)) ?_; clear HF a; intro a HF
     refine wl_y rfl HF rfl rfl (yl_load (v := .string (ws.getD 2 ByteArray.empty)) rfl (HF.ev rfl) (HS.out.elem1 encS_len 1 rfl (get_getD (xs := ws) (j := 2) (d := ByteArray.empty) (by omega)) rfl) (by kernel_rfl)) ?_; clear HF a; intro a HF
     refine wl_y rfl HF rfl rfl (yl_fieldAddr (j := 2) rfl (HF.ev rfl) (by kernel_rfl)) ?_; clear HF a; intro a HF
     refine wl_storeF rfl rfl rfl (HF.ev rfl) (HF.ev rfl) (by kernel_rfl) HS.out 0 rfl rfl rfl ?_; clear HS; intro w48 HS; replace HS := Bx.mk HS
     have HS : Bx (St w0 ([boxA b3 5 24 (.agg #[.int .i64 7, .string (ws.getD 1 ByteArray.empty), .string (ws.getD 2 ByteArray.empty), .int .i64 0, .string ByteArray.empty]), rowA encS 1 9 (.slice (some ⟨g2, 0, none⟩) ws.length cp) ws, boxA b1 5 24 (.agg #[.int .i64 0, .string ByteArray.empty, .string ByteArray.empty, .int .i64 0, .string ByteArray.empty])]) _) := HS
     refine wpList_nil ?_
     refine ex_block ?_
     refine ex_then ?_
     refine wp_seq ?_
     refine wp_sr ?_
     refine wl_mv HF rfl rfl rfl rfl rfl ?_; clear HF a; intro a HF
     refine wl_y rfl HF rfl rfl (yl_not rfl (HF.ev rfl)) ?_; clear HF a; intro a HF
     refine wl_mv HF rfl rfl rfl rfl rfl ?_; clear HF a; intro a HF
     refine wl_yg HF rfl rfl rfl rfl rfl (yl_loadR (cs := [.int .i64 7, .string (ws.getD 1 ByteArray.empty), .string (ws.getD 2 ByteArray.empty), .int .i64 0, .string ByteArray.empty]) rfl (HF.ev rfl) ((HS.out.box 0 rfl).sub 0 5) (by kernel_rfl)) ?_; clear HF a; intro a HF
     refine wl_callBg HF rfl rfl rfl rfl (enter_of Tryz.func11 (by kernel_rfl) rfl) (args := #[.agg #[.int .i64 7, .string (ws.getD 1 ByteArray.empty), .string (ws.getD 2 ByteArray.empty), .int .i64 0, .string ByteArray.empty]]) rfl (v := .bool ((⟨7, (ws.getD 1 ByteArray.empty), (ws.getD 2 ByteArray.empty), 0, ByteArray.empty⟩ : OpD).ok)) (implOpOk_any (⟨7, (ws.getD 1 ByteArray.empty), (ws.getD 2 ByteArray.empty), 0, ByteArray.empty⟩ : OpD) _ (HM.out.below HS.out.bel) (by first | exact hz _ | exact Nat.zero_le _) (by first | exact hz _ | exact Nat.zero_le _) (by first | exact hz _ | exact Nat.zero_le _)) rfl rfl HS.out ?_; clear HF HS a; intro w49 a HS HF; replace HS := Bx.mk HS
     refine wl_yg HF rfl rfl rfl rfl rfl (yl_not rfl (HF.ev rfl)) ?_; clear HF a; intro a HF
     refine wl_y rfl HF rfl rfl (yl_pick_f rfl (HF.ev rfl) (HF.ev rfl)) ?_; clear HF a; intro a HF
     refine wl_ne ?_
     refine HF.cases 75 rfl (fun cc17 HF1 => ?_) (fun cc17 HF1 => ?_)
     ·clear HF; have HF := HF1; clear HF1
      refine wc_true HF rfl ?_
      refine wp_sr ?_
      refine wl_y rfl HF rfl rfl (yl_build HF rfl (ps := []) rfl (cs := #[.int .i64 0, .string ByteArray.empty, .string ByteArray.empty, .int .i64 0, .string ByteArray.empty]) (by kernel_rfl)) ?_; clear HF a; intro a HF
      refine wl_storeBox rfl HF rfl rfl (HF.ev rfl) (HF.ev rfl) HS.out 2 rfl (cells_lit [.int .i64 0, .string ByteArray.empty, .string ByteArray.empty, .int .i64 0, .string ByteArray.empty] rfl rfl) (by kernel_rfl) ?_; clear HS; intro w50 HS; replace HS := Bx.mk HS
      have HS : Bx (St w0 ([boxA b3 5 24 (.agg #[.int .i64 7, .string (ws.getD 1 ByteArray.empty), .string (ws.getD 2 ByteArray.empty), .int .i64 0, .string ByteArray.empty]), rowA encS 1 9 (.slice (some ⟨g2, 0, none⟩) ws.length cp) ws, boxA b1 5 24 (.agg #[.int .i64 0, .string ByteArray.empty, .string ByteArray.empty, .int .i64 0, .string ByteArray.empty])]) _) := HS
      refine wl_as HF rfl rfl rfl rfl rfl ?_; clear HF a; intro a HF
      refine wl_ne ?_
      refine wp_ret ?_
      refine ex_then_ret ?_
      refine bp_ret2 HF Tryz.results8 (HF.resBox rfl (HS.out.box 2 rfl) (by kernel_rfl)) (HF.res rfl) ?_
      exact .inr ⟨(sh6 hkd (by omega) (by omega)).trans (chk_no (by simpa using cc17)), rfl, HS.out.bel⟩
     ·clear HF; have HF := HF1; clear HF1
      refine wc_false HF rfl ?_
      refine wp_skip ?_
      refine ex_then ?_
      refine wp_sr ?_
      refine wl_y rfl HF rfl rfl (yl_loadR (cs := [.int .i64 7, .string (ws.getD 1 ByteArray.empty), .string (ws.getD 2 ByteArray.empty), .int .i64 0, .string ByteArray.empty]) rfl (HF.ev rfl) ((HS.out.box 0 rfl).sub 0 5) (by kernel_rfl)) ?_; clear HF a; intro a HF
      refine wl_storeBox rfl HF rfl rfl (HF.ev rfl) (HF.ev rfl) HS.out 2 rfl (cells_lit [.int .i64 7, .string (ws.getD 1 ByteArray.empty), .string (ws.getD 2 ByteArray.empty), .int .i64 0, .string ByteArray.empty] rfl rfl) (by kernel_rfl) ?_; clear HS; intro w51 HS; replace HS := Bx.mk HS
      have HS : Bx (St w0 ([boxA b3 5 24 (.agg #[.int .i64 7, .string (ws.getD 1 ByteArray.empty), .string (ws.getD 2 ByteArray.empty), .int .i64 0, .string ByteArray.empty]), rowA encS 1 9 (.slice (some ⟨g2, 0, none⟩) ws.length cp) ws, boxA b1 5 24 (.agg #[.int .i64 7, .string (ws.getD 1 ByteArray.empty), .string (ws.getD 2 ByteArray.empty), .int .i64 0, .string ByteArray.empty])]) _) := HS
      refine wl_as HF rfl rfl rfl rfl rfl ?_; clear HF a; intro a HF
      refine wl_ne ?_
      refine wp_ret ?_
      refine bp_ret2 HF Tryz.results8 (HF.resBox rfl (HS.out.box 2 rfl) (by kernel_rfl)) (HF.res rfl) ?_
      exact .inl ⟨⟨7, (ws.getD 1 ByteArray.empty), (ws.getD 2 ByteArray.empty), 0, ByteArray.empty⟩, (sh6 hkd (by omega) (by omega)).trans (chk_yes (by simpa using cc17)), rfl, HS.out.bel⟩

end Go.Proofs.YtnikdicehddehaaGreatDoor
