/- A part of the proof in YtigjfacaofgjjaaGreatDoorWrZ33. -/
import Derived.Shelf.Small.Wraps
import Derived.Shelf.Strings.FuncGrows
import Derived.Shelf.Strings.Split
import Derived.Shelf.Strings.SplitShaped
import Derived.Shelf.Vars
import Derived.Test.YtigjfacaofgjjaaGreatDoorWrZ14
namespace Go.Proofs.YtigjfacaofgjjaaGreatDoor
set_option linter.unusedVariables false
set_option linter.unusedSimpArgs false
set_option maxHeartbeats 1000000
set_option maxRecDepth 100000
open Go.Shelf
def Zk0 : Go.Shelf.Ren := ⟨fun | 15 => 260 | 20 => 284 | n => n, fun | 0 => 0 | 3 => 3 | 4 => 4 | 9 => 9 | 21 => 21 | 23 => 266 | n => n, fun | n => n⟩
theorem Zmq : Go.Proofs.LaysGw.n15 Tryz.prog Zk0 := {
  mixed := by kernel_rfl
  f15 := Tryz.func260.trans (congrArg some (by kernel_rfl))
  f20 := Tryz.func284.trans (congrArg some (by kernel_rfl))
  t0 := Tryz.underlying0
  a0 := Tryz.isAgg0
  z0 := Tryz.sizeOf0
  v0 := Tryz.zeroValue0
  i0 := by kernel_rfl
  t3 := Tryz.underlying3
  a3 := Tryz.isAgg3
  z3 := Tryz.sizeOf3
  v3 := Tryz.zeroValue3
  i3 := by kernel_rfl
  t4 := Tryz.underlying4
  a4 := Tryz.isAgg4
  z4 := Tryz.sizeOf4
  v4 := Tryz.zeroValue4
  i4 := by kernel_rfl
  t9 := Tryz.underlying9
  a9 := Tryz.isAgg9
  z9 := Tryz.sizeOf9
  v9 := Tryz.zeroValue9
  i9 := by kernel_rfl
  t21 := Tryz.underlying21
  a21 := Tryz.isAgg21
  z21 := Tryz.sizeOf21
  v21 := Tryz.zeroValue21
  i21 := by kernel_rfl
  t23 := Tryz.underlying266
  a23 := Tryz.isAgg266
  z23 := Tryz.sizeOf266
  v23 := Tryz.zeroValue266
  i23 := by kernel_rfl }
def Zk1 : Go.Shelf.Ren := ⟨fun | 138 => 257 | 143 => 258 | 146 => 167 | 195 => 281 | 197 => 282 | 217 => 290 | 218 => 283 | 219 => 277 | 221 => 213 | 224 => 292 | 225 => 291 | 260 => 299 | 266 => 305 | 267 => 293 | 268 => 256 | 314 => 306 | n => n, fun | 0 => 0 | 3 => 3 | 4 => 4 | 5 => 5 | 9 => 9 | 21 => 21 | 31 => 22 | 46 => 240 | 51 => 268 | 105 => 281 | 119 => 307 | 138 => 309 | 139 => 310 | 146 => 269 | n => n, fun | 1 => 0 | 3 => 4 | 4 => 5 | n => n⟩
theorem ZdE : Go.Proofs.LaysM.n146 Tryz.prog Zk1 := {
  mixed := by kernel_rfl
  f138 := Tryz.func257.trans (congrArg some (by kernel_rfl))
  f143 := Tryz.func258.trans (congrArg some (by kernel_rfl))
  f146 := Tryz.func167.trans (congrArg some (by kernel_rfl))
  f195 := Tryz.func281.trans (congrArg some (by kernel_rfl))
  f197 := Tryz.func282.trans (congrArg some (by kernel_rfl))
  f217 := Tryz.func290.trans (congrArg some (by kernel_rfl))
  f218 := Tryz.func283.trans (congrArg some (by kernel_rfl))
  f219 := Tryz.func277.trans (congrArg some (by kernel_rfl))
  f221 := Tryz.func213.trans (congrArg some (by kernel_rfl))
  f224 := Tryz.func292.trans (congrArg some (by kernel_rfl))
  f225 := Tryz.func291.trans (congrArg some (by kernel_rfl))
  f260 := Tryz.func299.trans (congrArg some (by kernel_rfl))
  f266 := Tryz.func305.trans (congrArg some (by kernel_rfl))
  f267 := Tryz.func293.trans (congrArg some (by kernel_rfl))
  f268 := Tryz.func256.trans (congrArg some (by kernel_rfl))
  f314 := Tryz.func306.trans (congrArg some (by kernel_rfl))
  t0 := Tryz.underlying0
  a0 := Tryz.isAgg0
  z0 := Tryz.sizeOf0
  v0 := Tryz.zeroValue0
  t3 := Tryz.underlying3
  a3 := Tryz.isAgg3
  z3 := Tryz.sizeOf3
  v3 := Tryz.zeroValue3
  t4 := Tryz.underlying4
  a4 := Tryz.isAgg4
  z4 := Tryz.sizeOf4
  v4 := Tryz.zeroValue4
  t5 := Tryz.underlying5
  a5 := Tryz.isAgg5
  z5 := Tryz.sizeOf5
  v5 := Tryz.zeroValue5
  t9 := Tryz.underlying9
  a9 := Tryz.isAgg9
  z9 := Tryz.sizeOf9
  v9 := Tryz.zeroValue9
  t21 := Tryz.underlying21
  a21 := Tryz.isAgg21
  z21 := Tryz.sizeOf21
  v21 := Tryz.zeroValue21
  t31 := Tryz.underlying22
  a31 := Tryz.isAgg22
  z31 := Tryz.sizeOf22
  v31 := Tryz.zeroValue22
  t46 := Tryz.underlying240
  a46 := Tryz.isAgg240
  z46 := Tryz.sizeOf240
  v46 := Tryz.zeroValue240
  t51 := Tryz.underlying268
  a51 := Tryz.isAgg268
  z51 := Tryz.sizeOf268
  v51 := Tryz.zeroValue268
  t105 := Tryz.underlying281
  a105 := Tryz.isAgg281
  z105 := Tryz.sizeOf281
  v105 := Tryz.zeroValue281
  t119 := Tryz.underlying307
  a119 := Tryz.isAgg307
  z119 := Tryz.sizeOf307
  t138 := Tryz.underlying309
  a138 := Tryz.isAgg309
  z138 := Tryz.sizeOf309
  v138 := Tryz.zeroValue309
  t139 := Tryz.underlying310
  a139 := Tryz.isAgg310
  z139 := Tryz.sizeOf310
  v139 := Tryz.zeroValue310
  t146 := Tryz.underlying269
  a146 := Tryz.isAgg269
  z146 := Tryz.sizeOf269
  v146 := Tryz.zeroValue269
  g1 := by kernel_rfl
  g3 := by kernel_rfl
  g4 := by kernel_rfl
  i0 := by kernel_rfl
  i3 := by kernel_rfl
  i4 := by kernel_rfl
  i5 := by kernel_rfl
  i9 := by kernel_rfl
  i21 := by kernel_rfl
  i31 := by kernel_rfl
  i46 := by kernel_rfl
  i51 := by kernel_rfl
  i105 := by kernel_rfl
  i138 := by kernel_rfl
  i139 := by kernel_rfl
  i146 := by kernel_rfl
  m1 := by kernel_rfl
  s1_3 := fun w h => Go.Proofs.cell_of_shapedOpen_int (zero := #[.int .i64 0]) (t := 3) h (of_decide_eq_true (by kernel_rfl)) (by kernel_rfl) rfl (by kernel_rfl) (by kernel_rfl) Tryz.underlying3
  m3 := by kernel_rfl
  m4 := by kernel_rfl }
open Go.RowKit
theorem Zic (s : ByteArray) (w0 : World) (hs : s.size ≤ 9223372036854775806) : Calls Tryz.prog 225 #[.string s] w0 fun e w' => e = .returned (.int .i64 (Zi3 s)) ∧ Below w0.heap.size w0 w' := by
 have HS := Bx.mk (St.start w0);refine Zk Tryz.func225 rfl Tryz.ntmps225 [(0, .string s)] ⟨rfl, trivial⟩ rfl ?_;refine xsr<|xr 1 rfl<|xne<|xsr<|xr 2 rfl<|xne<|xsq<|xsr<|xr 1 rfl<|xy rfl (fun a HF=>Z6 rfl (HF.ev rfl) (by kernel_rfl))<|xr 1 rfl<|xne<|xbl ?_;intro a HF;refine ZN (ι := Nat) (fun k a w => (k ≤ s.size) ∧ Fr 28 a [(0, .string s), (3, .int .i64 ((U2 s k).1)), (4, .int .i64 ((U2 s k).2)), (7, .int .i64 (s.size : Int)), (8, .int .i64 (k : Int))] ∧ St w0 ([]) w) (fun k => s.size - k) 0 ⟨(Nat.zero_le _), HF.less _ ⟨rfl, rfl, rfl, rfl, rfl, trivial⟩, HS.out⟩ ?_;clear HF HS; clear a;rintro k a w1 ⟨hk, HF, HS⟩;replace HS := Bx.mk HS;have hb := Zi4 s k;have hbyte := Zc2 s k;revert a;refine xsr<|xr 1 rfl<|xne<|xsq<|xcs 9 rfl (fun cc1=>?_) fun cc1=>?_
 have cc1 := of_decide_eq_true cc1;refine xct rfl<|xsk<|xet<|xsq<|xbl<|xsr<|xr 2 rfl<|xne<|xsr<|xr 3 rfl<|xy rfl (fun a HF=>YG (i := k) rfl (HF.ev rfl) (HF.ev rfl) (by kernel_rfl) rfl (by omega))<|xy rfl (fun a HF=>ZbH rfl (HF.ev rfl) (Zc2 _ _) (by kernel_rfl) (by kernel_rfl))<|xy rfl (vad rfl)<|xy rfl (vad rfl)<|xy rfl (fun a HF=>ZaQ rfl (HF.ev rfl) (HF.ev rfl) (by omega) (ZaT (by omega) (by omega)))<|xr 1 rfl<|xne<|xrl<|xr 2 rfl<|xy rfl (vad rfl)<|xy rfl (fun a HF=>ZaQ rfl (HF.ev rfl) (HF.ev rfl) (by omega) (ZaT (by omega) (by omega)))<|xr 1 rfl<|xni<|xeb<|xet<|xrl<|xy rfl (vad rfl)<|xr 1 rfl<|xne ?_;intro a HF;exact ⟨k + 1, ⟨(by omega), HF.less _ ⟨rfl, rfl, (congrArg (fun x => some (Value.int .i64 x)) (by rw [show (U2 s (k + 1)).2 = ((U2 s k).2 + ((U2 s k).1 + ((s.get! k).toNat : Int) + 1) % 9973) % 9973 from rfl, Int.add_comm])), rfl, rfl, trivial⟩, HS.out⟩, (by omega)⟩;have cc1 := of_decide_eq_false cc1;obtain rfl : k = s.size := by omega
 refine xcf rfl<|xex<|xtx<|xtx<|xbh<|xet<|xsr<|xr 1 rfl<|xy rfl (fun a HF=>JS rfl (HF.ev rfl) (HF.ev rfl) (QQ (by omega)))<|xr 1 rfl<|xy rfl (vad rfl)<|xr 1 rfl<|xne<|xre<|xb1 Tryz.results225 rfl ?_;exact ⟨rfl, HS.out.bel⟩
theorem Zid (s : ByteArray) (w0 : World) (hs : s.size ≤ 9223372036854775806) : Calls Tryz.prog 237 #[.string s] w0 fun e w' => e = .returned (.int .i64 (Zi3 s)) ∧ Below w0.heap.size w0 w' := by
 have HS := Bx.mk (St.start w0);refine Zk Tryz.func237 rfl Tryz.ntmps237 [(0, .string s)] ⟨rfl, trivial⟩ rfl ?_;refine xsr<|xr 1 rfl<|xne<|xsr<|xr 1 rfl<|xne<|xsr<|xr 1 rfl<|xne<|xsq<|xsr<|xr 1 rfl<|xne<|xbl ?_;intro a HF;refine ZN (ι := Nat) (fun k a w => (k ≤ s.size) ∧ Fr 28 a [(0, .string s), (3, .int .i64 ((U2 s k).1)), (4, .int .i64 ((U2 s k).2)), (5, .int .i64 (k : Int))] ∧ St w0 ([]) w) (fun k => s.size - k) 0 ⟨(Nat.zero_le _), HF.less _ ⟨rfl, rfl, rfl, rfl, trivial⟩, HS.out⟩ ?_;clear HF HS; clear a;rintro k a w1 ⟨hk, HF, HS⟩;replace HS := Bx.mk HS;have hb := Zi4 s k;have hbyte := Zc2 s k;revert a;refine xsq<|xsr<|xr 2 rfl<|xy rfl (fun a HF=>Z6 rfl (HF.ev rfl) (by kernel_rfl))<|xr 1 rfl<|xne<|xcs 9 rfl (fun cc1=>?_) fun cc1=>?_
 have cc1 := of_decide_eq_true cc1;refine xct rfl<|xsk<|xet<|xsq<|xbl<|xsr<|xr 3 rfl<|xy rfl (fun a HF=>YG (i := k) rfl (HF.ev rfl) (HF.ev rfl) (by kernel_rfl) rfl (by omega))<|xy rfl (fun a HF=>ZbH rfl (HF.ev rfl) (Zc2 _ _) (by kernel_rfl) (by kernel_rfl))<|xy rfl (vad rfl)<|xy rfl (vad rfl)<|xy rfl (fun a HF=>ZaQ rfl (HF.ev rfl) (HF.ev rfl) (by omega) (ZaT (by omega) (by omega)))<|xr 1 rfl<|xne<|xrl<|xr 2 rfl<|xy rfl (vad rfl)<|xy rfl (fun a HF=>ZaQ rfl (HF.ev rfl) (HF.ev rfl) (by omega) (ZaT (by omega) (by omega)))<|xr 1 rfl<|xni<|xeb<|xet<|xrl<|xr 1 rfl<|xy rfl (vad rfl)<|xr 1 rfl<|xne ?_;intro a HF;exact ⟨k + 1, ⟨(by omega), HF.less _ ⟨rfl, rfl, rfl, rfl, trivial⟩, HS.out⟩, (by omega)⟩;have cc1 := of_decide_eq_false cc1;obtain rfl : k = s.size := by omega
 refine xcf rfl<|xex<|xtx<|xtx<|xbh<|xet<|xsr<|xr 1 rfl<|xy rfl (fun a HF=>JS rfl (HF.ev rfl) (HF.ev rfl) (QQ (by omega)))<|xr 1 rfl<|xy rfl (vad rfl)<|xr 1 rfl<|xne<|xre<|xb1 Tryz.results237 rfl ?_;exact ⟨rfl, HS.out.bel⟩
end Go.Proofs.YtigjfacaofgjjaaGreatDoor
