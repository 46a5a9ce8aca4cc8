/- A part of the proof in YtdlmlagcniifjaaGreatDoorFnZ32. -/
import Derived.Shelf.Small.Wraps
import Derived.Shelf.Strings.FuncGrows
import Derived.Shelf.Strings.Split
import Derived.Shelf.Strings.SplitShaped
import Derived.Shelf.Vars
import Derived.Test.YtdlmlagcniifjaaGreatDoorFnZ14
namespace Go.Proofs.YtdlmlagcniifjaaGreatDoor
set_option linter.unusedVariables false
set_option linter.unusedSimpArgs false
set_option maxHeartbeats 1000000
set_option maxRecDepth 100000
open Go.Shelf
def layN_ren : Go.Shelf.Ren := ⟨fun | 138 => 189 | 143 => 190 | 146 => 164 | 195 => 199 | 197 => 200 | 217 => 193 | 218 => 201 | 219 => 182 | 221 => 175 | 224 => 195 | 225 => 194 | 260 => 206 | 266 => 202 | 267 => 196 | 268 => 188 | 314 => 203 | n => n, fun | 0 => 0 | 3 => 3 | 4 => 4 | 5 => 5 | 9 => 9 | 21 => 21 | 31 => 22 | 46 => 194 | 51 => 192 | 105 => 212 | 119 => 222 | 138 => 224 | 139 => 225 | 146 => 216 | n => n, fun | 1 => 1 | 3 => 6 | 4 => 7 | n => n⟩
theorem laySplit : Go.Proofs.LaysM.n146 Tryz.prog layN_ren := {
  mixed := by kernel_rfl
  f138 := Tryz.func189.trans (congrArg some (by kernel_rfl))
  f143 := Tryz.func190.trans (congrArg some (by kernel_rfl))
  f146 := Tryz.func164.trans (congrArg some (by kernel_rfl))
  f195 := Tryz.func199.trans (congrArg some (by kernel_rfl))
  f197 := Tryz.func200.trans (congrArg some (by kernel_rfl))
  f217 := Tryz.func193.trans (congrArg some (by kernel_rfl))
  f218 := Tryz.func201.trans (congrArg some (by kernel_rfl))
  f219 := Tryz.func182.trans (congrArg some (by kernel_rfl))
  f221 := Tryz.func175.trans (congrArg some (by kernel_rfl))
  f224 := Tryz.func195.trans (congrArg some (by kernel_rfl))
  f225 := Tryz.func194.trans (congrArg some (by kernel_rfl))
  f260 := Tryz.func206.trans (congrArg some (by kernel_rfl))
  f266 := Tryz.func202.trans (congrArg some (by kernel_rfl))
  f267 := Tryz.func196.trans (congrArg some (by kernel_rfl))
  f268 := Tryz.func188.trans (congrArg some (by kernel_rfl))
  f314 := Tryz.func203.trans (congrArg some (by kernel_rfl))
  t0 := Tryz.underlying0
  a0 := Tryz.isAgg0
  z0 := Tryz.sizeOf0
  v0 := Tryz.zeroValue0
  t3 := Tryz.underlying3
  a3 := Tryz.isAgg3
  z3 := Tryz.sizeOf3
  v3 := Tryz.zeroValue3
  t4 := Tryz.underlying4
  a4 := Tryz.isAgg4
  z4 := Tryz.sizeOf4
  v4 := Tryz.zeroValue4
  t5 := Tryz.underlying5
  a5 := Tryz.isAgg5
  z5 := Tryz.sizeOf5
  v5 := Tryz.zeroValue5
  t9 := Tryz.underlying9
  a9 := Tryz.isAgg9
  z9 := Tryz.sizeOf9
  v9 := Tryz.zeroValue9
  t21 := Tryz.underlying21
  a21 := Tryz.isAgg21
  z21 := Tryz.sizeOf21
  v21 := Tryz.zeroValue21
  t31 := Tryz.underlying22
  a31 := Tryz.isAgg22
  z31 := Tryz.sizeOf22
  v31 := Tryz.zeroValue22
  t46 := Tryz.underlying194
  a46 := Tryz.isAgg194
  z46 := Tryz.sizeOf194
  v46 := Tryz.zeroValue194
  t51 := Tryz.underlying192
  a51 := Tryz.isAgg192
  z51 := Tryz.sizeOf192
  v51 := Tryz.zeroValue192
  t105 := Tryz.underlying212
  a105 := Tryz.isAgg212
  z105 := Tryz.sizeOf212
  v105 := Tryz.zeroValue212
  t119 := Tryz.underlying222
  a119 := Tryz.isAgg222
  z119 := Tryz.sizeOf222
  t138 := Tryz.underlying224
  a138 := Tryz.isAgg224
  z138 := Tryz.sizeOf224
  v138 := Tryz.zeroValue224
  t139 := Tryz.underlying225
  a139 := Tryz.isAgg225
  z139 := Tryz.sizeOf225
  v139 := Tryz.zeroValue225
  t146 := Tryz.underlying216
  a146 := Tryz.isAgg216
  z146 := Tryz.sizeOf216
  v146 := Tryz.zeroValue216
  g1 := by kernel_rfl
  g3 := by kernel_rfl
  g4 := by kernel_rfl
  i0 := by kernel_rfl
  i3 := by kernel_rfl
  i4 := by kernel_rfl
  i5 := by kernel_rfl
  i9 := by kernel_rfl
  i21 := by kernel_rfl
  i31 := by kernel_rfl
  i46 := by kernel_rfl
  i51 := by kernel_rfl
  i105 := by kernel_rfl
  i138 := by kernel_rfl
  i139 := by kernel_rfl
  i146 := by kernel_rfl
  m1 := by kernel_rfl
  s1_3 := fun w h => Go.Proofs.cell_of_shapedOpen_int (zero := #[.int .i64 0]) (t := 3) h (of_decide_eq_true (by kernel_rfl)) (by kernel_rfl) rfl (by kernel_rfl) (by kernel_rfl) Tryz.underlying3
  m3 := by kernel_rfl
  m4 := by kernel_rfl }
open Go.RowKit
theorem sumOfI_any (s : ByteArray) (w0 : World) (hs : s.size ≤ 9223372036854775806) : Calls Tryz.prog 152 #[.string s] w0 fun e w' => e = .returned (.int .i64 (sumOf s)) ∧ Below w0.heap.size w0 w' := by
 have HS := Bx.mk (St.start w0)
 refine wc_enter Tryz.func152 rfl Tryz.ntmps152 [(0, .string s)] ⟨rfl, trivial⟩ rfl ?_
 refine xsr<|xr 1 rfl<|xne<|xsr<|xr 2 rfl<|xne<|xsq<|xsr<|xr 1 rfl<|xy rfl (fun a HF=>yl_lenS rfl (HF.ev rfl) (by kernel_rfl))<|xr 1 rfl<|xne<|xbl ?_
 intro a HF
 refine wc_loop (ι := Nat) (fun k a w => (k ≤ s.size) ∧ Fr 28 a [(0, .string s), (3, .int .i64 ((sumF s k).1)), (4, .int .i64 ((sumF s k).2)), (7, .int .i64 (s.size : Int)), (8, .int .i64 (k : Int))] ∧ St w0 ([]) w) (fun k => s.size - k) 0 ⟨(Nat.zero_le _), HF.less _ ⟨rfl, rfl, rfl, rfl, rfl, trivial⟩, HS.out⟩ ?_
 clear HF HS; clear a
 rintro k a w1 ⟨hk, HF, HS⟩
 replace HS := Bx.mk HS
 have hb := sumF_le s k
 have hbyte := byte_le s k
 revert a;refine xsr<|xr 1 rfl<|xne<|xsq<|xcs 9 rfl (fun cc1=>?_) fun cc1=>?_
 have cc1 := of_decide_eq_true cc1
 refine xct rfl<|xsk<|xet<|xsq<|xbl<|xsr<|xr 2 rfl<|xne<|xsr<|xr 3 rfl<|xy rfl (fun a HF=>yl_indexS (i := k) rfl (HF.ev rfl) (HF.ev rfl) (by kernel_rfl) rfl (by omega))<|xy rfl (fun a HF=>yl_convU8 rfl (HF.ev rfl) (byte_le _ _) (by kernel_rfl) (by kernel_rfl))<|xy rfl (vad rfl)<|xy rfl (vad rfl)<|xy rfl (fun a HF=>yl_remI rfl (HF.ev rfl) (HF.ev rfl) (by omega) (rem_pos (by omega) (by omega)))<|xr 1 rfl<|xne<|xrl<|xr 2 rfl<|xy rfl (vad rfl)<|xy rfl (fun a HF=>yl_remI rfl (HF.ev rfl) (HF.ev rfl) (by omega) (rem_pos (by omega) (by omega)))<|xr 1 rfl<|xni<|xeb<|xet<|xrl<|xy rfl (vad rfl)<|xr 1 rfl<|xne ?_
 intro a HF
 exact ⟨k + 1, ⟨(by omega), HF.less _ ⟨rfl, rfl, (congrArg (fun x => some (Value.int .i64 x)) (by rw [show (sumF s (k + 1)).2 = ((sumF s k).2 + ((sumF s k).1 + ((s.get! k).toNat : Int) + 1) % 9973) % 9973 from rfl, Int.add_comm])), rfl, rfl, trivial⟩, HS.out⟩, (by omega)⟩
 have cc1 := of_decide_eq_false cc1
 obtain rfl : k = s.size := by omega
 refine xcf rfl<|xex<|xtx<|xtx<|xbh<|xet<|xsr<|xr 1 rfl<|xy rfl (fun a HF=>yl_mulI rfl (HF.ev rfl) (HF.ev rfl) (i64w (by omega)))<|xr 1 rfl<|xy rfl (vad rfl)<|xr 1 rfl<|xne<|xre<|xb1 Tryz.results152 rfl ?_
 exact ⟨rfl, HS.out.bel⟩
theorem sumOfS_any (s : ByteArray) (w0 : World) (hs : s.size ≤ 9223372036854775806) : Calls Tryz.prog 119 #[.string s] w0 fun e w' => e = .returned (.int .i64 (sumOf s)) ∧ Below w0.heap.size w0 w' := by
 have HS := Bx.mk (St.start w0)
 refine wc_enter Tryz.func119 rfl Tryz.ntmps119 [(0, .string s)] ⟨rfl, trivial⟩ rfl ?_
 refine xsr<|xr 1 rfl<|xne<|xsr<|xr 1 rfl<|xne<|xsr<|xr 1 rfl<|xne<|xsq<|xsr<|xr 1 rfl<|xne<|xbl ?_
 intro a HF
 refine wc_loop (ι := Nat) (fun k a w => (k ≤ s.size) ∧ Fr 28 a [(0, .string s), (3, .int .i64 ((sumF s k).1)), (4, .int .i64 ((sumF s k).2)), (5, .int .i64 (k : Int))] ∧ St w0 ([]) w) (fun k => s.size - k) 0 ⟨(Nat.zero_le _), HF.less _ ⟨rfl, rfl, rfl, rfl, trivial⟩, HS.out⟩ ?_
 clear HF HS; clear a
 rintro k a w1 ⟨hk, HF, HS⟩
 replace HS := Bx.mk HS
 have hb := sumF_le s k
 have hbyte := byte_le s k
 revert a;refine xsq<|xsr<|xr 2 rfl<|xy rfl (fun a HF=>yl_lenS rfl (HF.ev rfl) (by kernel_rfl))<|xr 1 rfl<|xne<|xcs 9 rfl (fun cc1=>?_) fun cc1=>?_
 have cc1 := of_decide_eq_true cc1
 refine xct rfl<|xsk<|xet<|xsq<|xbl<|xsr<|xr 3 rfl<|xy rfl (fun a HF=>yl_indexS (i := k) rfl (HF.ev rfl) (HF.ev rfl) (by kernel_rfl) rfl (by omega))<|xy rfl (fun a HF=>yl_convU8 rfl (HF.ev rfl) (byte_le _ _) (by kernel_rfl) (by kernel_rfl))<|xy rfl (vad rfl)<|xy rfl (vad rfl)<|xy rfl (fun a HF=>yl_remI rfl (HF.ev rfl) (HF.ev rfl) (by omega) (rem_pos (by omega) (by omega)))<|xr 1 rfl<|xne<|xrl<|xr 2 rfl<|xy rfl (vad rfl)<|xy rfl (fun a HF=>yl_remI rfl (HF.ev rfl) (HF.ev rfl) (by omega) (rem_pos (by omega) (by omega)))<|xr 1 rfl<|xni<|xeb<|xet<|xrl<|xr 1 rfl<|xy rfl (vad rfl)<|xr 1 rfl<|xne ?_
 intro a HF
 exact ⟨k + 1, ⟨(by omega), HF.less _ ⟨rfl, rfl, rfl, rfl, trivial⟩, HS.out⟩, (by omega)⟩
 have cc1 := of_decide_eq_false cc1
 obtain rfl : k = s.size := by omega
 refine xcf rfl<|xex<|xtx<|xtx<|xbh<|xet<|xsr<|xr 1 rfl<|xy rfl (fun a HF=>yl_mulI rfl (HF.ev rfl) (HF.ev rfl) (i64w (by omega)))<|xr 1 rfl<|xy rfl (vad rfl)<|xr 1 rfl<|xne<|xre<|xb1 Tryz.results119 rfl ?_
 exact ⟨rfl, HS.out.bel⟩
theorem isBlock_any (s : ByteArray) (w0 : World) (hs : s.size ≤ 9223372036854775806) : Calls Tryz.prog 153 #[.string s] w0 fun e w' => e = .returned (.bool (inB (s.size : Int) 1 128)) ∧ Below w0.heap.size w0 w' := by
 have HS := Bx.mk (St.start w0)
 refine wc_enter Tryz.func153 rfl Tryz.ntmps153 [(0, .string s)] ⟨rfl, trivial⟩ rfl ?_
 refine xsr<|xr 1 rfl<|xne<|xsr<|xr 1 rfl<|xy rfl (fun a HF=>yl_lenS rfl (HF.ev rfl) (by kernel_rfl)) ?_
 intro a HF
 refine ycB ((within_any (s.size : Int) 1 128 _).mono fun _ _ h => ⟨h.1, h.2 ▸ Below.refl _ _⟩) HF Tryz.func42 HS ?_; clear HF HS a; intro w1 a HS HF
 revert a;refine xr 1 rfl<|xne<|xre<|xb1 Tryz.results153 rfl ?_
 exact ⟨rfl, HS.out.bel⟩
theorem l2Block_any (s : ByteArray) (w0 : World) (hs : s.size ≤ 9223372036854775806) : Calls Tryz.prog 140 #[.string s] w0 fun e w' => e = .returned (.bool (inB (s.size : Int) 1 128)) ∧ Below w0.heap.size w0 w' := by
 have HS := Bx.mk (St.start w0)
 refine wc_enter Tryz.func140 rfl Tryz.ntmps140 [(0, .string s)] ⟨rfl, trivial⟩ rfl ?_
 refine xsr<|xr 1 rfl<|xne<|xsr<|xr 1 rfl<|xy rfl (fun a HF=>yl_lenS rfl (HF.ev rfl) (by kernel_rfl)) ?_
 intro a HF
 refine ycB ((l6In_any (s.size : Int) 1 128 _).mono fun _ _ h => ⟨h.1, h.2 ▸ Below.refl _ _⟩) HF Tryz.func37 HS ?_; clear HF HS a; intro w1 a HS HF
 revert a;refine xr 1 rfl<|xne<|xre<|xb1 Tryz.results140 rfl ?_
 exact ⟨rfl, HS.out.bel⟩
theorem ptrOfI_any (at_ birth level : Int) (s : ByteArray) (w0 : World) (hs : s.size ≤ 9223372036854775806) : Calls Tryz.prog 127 #[.int .i64 at_, .int .i64 birth, .int .i64 level, .string s] w0 fun e w' => e = .returned (.tuple #[pV (ptrOf at_ birth level s), .bool (ptrOk at_ birth level s)]) ∧ Below w0.heap.size w0 w' := by
 have HS := Bx.mk (St.start w0)
 refine wc_enter Tryz.func127 rfl Tryz.ntmps127 [(0, .int .i64 at_), (1, .int .i64 birth), (2, .int .i64 level), (3, .string s)] ⟨rfl, rfl, rfl, rfl, trivial⟩ rfl ?_
 refine xsr ?_
 intro a HF
 refine yal z5 HF HS ?_;clear HF HS a;intro a w1 b1 HF HS
 revert a;refine xr 1 rfl<|xne<|xsr<|xr 3 rfl<|xy rfl (fun a HF=>yl_lenS rfl (HF.ev rfl) (by kernel_rfl))<|xr 1 rfl ?_
 intro a HF
 refine ycB (sumOfI_any s _ (by omega)) HF Tryz.func152 HS ?_; clear HF HS a; intro w2 a HS HF
 revert a;refine xr 1 rfl<|xy rfl (vb [.int .i64 at_, .int .i64 birth, .int .i64 (s.size : Int), .int .i64 (sumOf s), .int .i64 level] rfl) ?_
 intro a HF
 refine yal z5 HF HS ?_;clear HF HS a;intro a w3 b2 HF HS
 refine yst HF HS 0 ?_;clear HS;intro w4 HS
 try dsimp only [List.set] at HS
 revert a;refine xne<|xsq<|xsr<|xr 1 rfl ?_
 intro a HF
 refine ycB (isBlock_any s _ (by omega)) HF Tryz.func153 HS ?_; clear HF HS a; intro w5 a HS HF
 revert a;refine xr 2 rfl<|xcs 22 rfl (fun cc1=>?_) fun cc1=>?_
 intro a HF
 -- !(inB (s.size : Int) 1 128)
 revert a;refine xr 4 rfl<|xne<|xct rfl<|xsr<|xy rfl (vb z5 rfl) ?_
 intro a HF
 refine yst HF HS 1 ?_;clear HS;intro w6 HS
 try dsimp only [List.set] at HS
 revert a;refine xr 1 rfl<|xne<|xre<|xtr ?_
 intro a HF
 refine bp_ret2 HF Tryz.results127 (HF.resBox rfl (HS.out.box 1 rfl) (by kernel_rfl)) (HF.res rfl) ?_
 have cc1 := (Bool.not_eq_eq_eq_not.1 cc1)
 have hk : ptrOk at_ birth level s = false := by
   unfold ptrOk ptrAt
   rw [cc1]; rfl
 refine ⟨?_, HS.out.bel⟩
 rw [ptrOf_no hk, hk]; rfl
 intro a HF
 -- !(inB (s.size : Int) 1 128)
 revert a;refine xy rfl (vw HS.out 0 5 rfl rfl) ?_
 intro a HF
 refine ycBg (implPtrOk_any ({ fAt := at_, fBirth := birth, fSize := (s.size : Int), fSum := sumOf s, fLevel := level } : PtrD) _) HF Tryz.func67 HS ?_; clear HF HS a; intro w7 a HS HF
 revert a;refine xr 2 rfl<|xne<|xcs 26 rfl (fun cc2=>?_) fun cc2=>?_
 intro a HF
 -- !(({ fAt := at_, fBirth := birth, fSize := (s.size : Int), fSum := sumOf s, fLevel := level } : PtrD).ok)
 revert a;refine xct rfl<|xsr<|xy rfl (vb z5 rfl) ?_
 intro a HF
 refine yst HF HS 1 ?_;clear HS;intro w8 HS
 try dsimp only [List.set] at HS
 revert a;refine xr 1 rfl<|xne<|xre<|xtr ?_
 intro a HF
 refine bp_ret2 HF Tryz.results127 (HF.resBox rfl (HS.out.box 1 rfl) (by kernel_rfl)) (HF.res rfl) ?_
 have cc1 := (Bool.not_eq_eq_eq_not.1 cc1)
 have cc2 := (Bool.not_eq_eq_eq_not.1 cc2)
 have hk : ptrOk at_ birth level s = false := by
   unfold ptrOk ptrAt
   rw [cc1, cc2]; rfl
 refine ⟨?_, HS.out.bel⟩
 rw [ptrOf_no hk, hk]; rfl
 intro a HF
 -- !(({ fAt := at_, fBirth := birth, fSize := (s.size : Int), fSum := sumOf s, fLevel := level } : PtrD).ok)
 revert a;refine xcf rfl<|xsk<|xet<|xsr<|xy rfl (vw HS.out 0 5 rfl rfl) ?_
 intro a HF
 refine yst HF HS 1 ?_;clear HS;intro w9 HS
 try dsimp only [List.set] at HS
 revert a;refine xr 1 rfl<|xne<|xre ?_
 intro a HF
 refine bp_ret2 HF Tryz.results127 (HF.resBox rfl (HS.out.box 1 rfl) (by kernel_rfl)) (HF.res rfl) ?_
 have cc1 := (Bool.not_eq_eq_eq_not.1 cc1)
 have cc2 := (Bool.not_eq_eq_eq_not.1 cc2)
 have hk : ptrOk at_ birth level s = true := by
   unfold ptrOk ptrAt
   rw [cc1, cc2]; rfl
 refine ⟨?_, HS.out.bel⟩
 rw [ptrOf_yes hk, hk]; rfl
theorem ptrOfS_any (at_ birth level : Int) (s : ByteArray) (w0 : World) (hs : s.size ≤ 9223372036854775806) : Calls Tryz.prog 110 #[.int .i64 at_, .int .i64 birth, .int .i64 level, .string s] w0 fun e w' => e = .returned (.tuple #[pV (ptrOf at_ birth level s), .bool (ptrOk at_ birth level s)]) ∧ Below w0.heap.size w0 w' := by
 have HS := Bx.mk (St.start w0)
 refine wc_enter Tryz.func110 rfl Tryz.ntmps110 [(0, .int .i64 at_), (1, .int .i64 birth), (2, .int .i64 level), (3, .string s)] ⟨rfl, rfl, rfl, rfl, trivial⟩ rfl ?_
 refine xsr ?_
 intro a HF
 refine yal z5 HF HS ?_;clear HF HS a;intro a w1 b1 HF HS
 revert a;refine xr 1 rfl<|xne<|xsr<|xr 3 rfl<|xy rfl (fun a HF=>yl_lenS rfl (HF.ev rfl) (by kernel_rfl))<|xr 1 rfl<|xy rfl (vb [.int .i64 at_, .int .i64 birth, .int .i64 (s.size : Int), .int .i64 0, .int .i64 level] rfl) ?_
 intro a HF
 refine yal z5 HF HS ?_;clear HF HS a;intro a w2 b2 HF HS
 refine yst HF HS 0 ?_;clear HS;intro w3 HS
 try dsimp only [List.set] at HS
 revert a;refine xne<|xsq<|xsr<|xr 1 rfl ?_
 intro a HF
 refine ycB (l2Block_any s _ (by omega)) HF Tryz.func140 HS ?_; clear HF HS a; intro w4 a HS HF
 revert a;refine xr 1 rfl<|xne<|xcs 19 rfl (fun cc1=>?_) fun cc1=>?_
 intro a HF
 -- !(inB (s.size : Int) 1 128)
 revert a;refine xct rfl<|xsr<|xy rfl (vb z5 rfl) ?_
 intro a HF
 refine yst HF HS 1 ?_;clear HS;intro w5 HS
 try dsimp only [List.set] at HS
 revert a;refine xr 1 rfl<|xne<|xre<|xtr ?_
 intro a HF
 refine bp_ret2 HF Tryz.results110 (HF.resBox rfl (HS.out.box 1 rfl) (by kernel_rfl)) (HF.res rfl) ?_
 have cc1 := (Bool.not_eq_eq_eq_not.1 cc1)
 have hk : ptrOk at_ birth level s = false := by
   unfold ptrOk ptrAt
   rw [cc1]; rfl
 refine ⟨?_, HS.out.bel⟩
 rw [ptrOf_no hk, hk]; rfl
 intro a HF
 -- !(inB (s.size : Int) 1 128)
 revert a;refine xcf rfl<|xsk<|xet<|xsr<|xr 1 rfl ?_
 intro a HF
 refine ycB (sumOfS_any s _ (by omega)) HF Tryz.func119 HS ?_; clear HF HS a; intro w6 a HS HF
 revert a;refine xy rfl (vf 3 rfl) ?_
 intro a HF
 refine wl_storeF rfl rfl rfl (HF.ev rfl) (HF.ev rfl) (by kernel_rfl) HS.out 0 rfl rfl rfl ?_; clear HS; intro w7 HS; replace HS := Bx.mk HS
 try dsimp only [List.set] at HS
 revert a;refine xne<|xsq<|xsr<|xy rfl (vw HS.out 0 5 rfl rfl) ?_
 intro a HF
 refine ycB (specPtrOk_any ({ fAt := at_, fBirth := birth, fSize := (s.size : Int), fSum := sumOf s, fLevel := level } : PtrD) _) HF Tryz.func49 HS ?_; clear HF HS a; intro w8 a HS HF
 revert a;refine xr 1 rfl<|xne<|xcs 26 rfl (fun cc2=>?_) fun cc2=>?_
 intro a HF
 -- !(({ fAt := at_, fBirth := birth, fSize := (s.size : Int), fSum := sumOf s, fLevel := level } : PtrD).ok)
 revert a;refine xct rfl<|xsr<|xy rfl (vb z5 rfl) ?_
 intro a HF
 refine yst HF HS 1 ?_;clear HS;intro w9 HS
 try dsimp only [List.set] at HS
 revert a;refine xr 1 rfl<|xne<|xre<|xtr ?_
 intro a HF
 refine bp_ret2 HF Tryz.results110 (HF.resBox rfl (HS.out.box 1 rfl) (by kernel_rfl)) (HF.res rfl) ?_
 have cc1 := (Bool.not_eq_eq_eq_not.1 cc1)
 have cc2 := (Bool.not_eq_eq_eq_not.1 cc2)
 have hk : ptrOk at_ birth level s = false := by
   unfold ptrOk ptrAt
   rw [cc1, cc2]; rfl
 refine ⟨?_, HS.out.bel⟩
 rw [ptrOf_no hk, hk]; rfl
 intro a HF
 -- !(({ fAt := at_, fBirth := birth, fSize := (s.size : Int), fSum := sumOf s, fLevel := level } : PtrD).ok)
 revert a;refine xcf rfl<|xsk<|xet<|xsr<|xy rfl (vw HS.out 0 5 rfl rfl) ?_
 intro a HF
 refine yst HF HS 1 ?_;clear HS;intro w10 HS
 try dsimp only [List.set] at HS
 revert a;refine xr 1 rfl<|xne<|xre ?_
 intro a HF
 refine bp_ret2 HF Tryz.results110 (HF.resBox rfl (HS.out.box 1 rfl) (by kernel_rfl)) (HF.res rfl) ?_
 have cc1 := (Bool.not_eq_eq_eq_not.1 cc1)
 have cc2 := (Bool.not_eq_eq_eq_not.1 cc2)
 have hk : ptrOk at_ birth level s = true := by
   unfold ptrOk ptrAt
   rw [cc1, cc2]; rfl
 refine ⟨?_, HS.out.bel⟩
 rw [ptrOf_yes hk, hk]; rfl
end Go.Proofs.YtdlmlagcniifjaaGreatDoor
