/- A part of the proof in YthnbgnjpbmnelaaGreatDoorTqX34. -/
import Derived.Shelf.Small.Wraps
import Derived.Shelf.Strings.FuncGrows
import Derived.Shelf.Strings.Split
import Derived.Shelf.Strings.SplitShaped
import Derived.Shelf.Vars
import Derived.Test.YthnbgnjpbmnelaaGreatDoorTqX14
namespace Go.Proofs.YthnbgnjpbmnelaaGreatDoor
open Go.Proofs.Tryz
set_option linter.unusedVariables false
set_option linter.unusedSimpArgs false
set_option maxHeartbeats 1000000
set_option maxRecDepth 100000
open Go.Shelf
def ZlC : Go.Shelf.Ren := ⟨fun | 138 => 340 | 143 => 341 | 146 => 292 | 195 => 348 | 197 => 349 | 217 => 266 | 218 => 350 | 219 => 217 | 221 => 321 | 224 => 268 | 225 => 267 | 260 => 352 | 266 => 312 | 267 => 269 | 268 => 339 | 314 => 313 | n => n, fun | 0 => 0 | 3 => 3 | 4 => 4 | 5 => 5 | 9 => 9 | 21 => 21 | 31 => 22 | 46 => 170 | 51 => 230 | 105 => 354 | 119 => 357 | 138 => 359 | 139 => 360 | 146 => 322 | n => n, fun | 1 => 0 | 3 => 6 | 4 => 7 | n => n⟩
theorem ZlD : Go.Proofs.LaysM.n146 prog ZlC := {
 mixed := by kernel_rfl
 f138 := Tryz.func340.trans (congrArg some (by kernel_rfl))
 f143 := Tryz.func341.trans (congrArg some (by kernel_rfl))
 f146 := Tryz.func292.trans (congrArg some (by kernel_rfl))
 f195 := Tryz.func348.trans (congrArg some (by kernel_rfl))
 f197 := Tryz.func349.trans (congrArg some (by kernel_rfl))
 f217 := Tryz.func266.trans (congrArg some (by kernel_rfl))
 f218 := Tryz.func350.trans (congrArg some (by kernel_rfl))
 f219 := Tryz.func217.trans (congrArg some (by kernel_rfl))
 f221 := Tryz.func321.trans (congrArg some (by kernel_rfl))
 f224 := Tryz.func268.trans (congrArg some (by kernel_rfl))
 f225 := Tryz.func267.trans (congrArg some (by kernel_rfl))
 f260 := Tryz.func352.trans (congrArg some (by kernel_rfl))
 f266 := Tryz.func312.trans (congrArg some (by kernel_rfl))
 f267 := Tryz.func269.trans (congrArg some (by kernel_rfl))
 f268 := Tryz.func339.trans (congrArg some (by kernel_rfl))
 f314 := Tryz.func313.trans (congrArg some (by kernel_rfl))
 t0 := Tryz.underlying0
 a0 := Tryz.isAgg0
 z0 := Tryz.sizeOf0
 v0 := Tryz.zeroValue0
 t3 := Tryz.underlying3
 a3 := Tryz.isAgg3
 z3 := Tryz.sizeOf3
 v3 := Tryz.zeroValue3
 t4 := Tryz.underlying4
 a4 := Tryz.isAgg4
 z4 := Tryz.sizeOf4
 v4 := Tryz.zeroValue4
 t5 := Tryz.underlying5
 a5 := Tryz.isAgg5
 z5 := Tryz.sizeOf5
 v5 := Tryz.zeroValue5
 t9 := Tryz.underlying9
 a9 := Tryz.isAgg9
 z9 := Tryz.sizeOf9
 v9 := Tryz.zeroValue9
 t21 := Tryz.underlying21
 a21 := Tryz.isAgg21
 z21 := Tryz.sizeOf21
 v21 := Tryz.zeroValue21
 t31 := Tryz.underlying22
 a31 := Tryz.isAgg22
 z31 := Tryz.sizeOf22
 v31 := Tryz.zeroValue22
 t46 := Tryz.underlying170
 a46 := Tryz.isAgg170
 z46 := Tryz.sizeOf170
 v46 := Tryz.zeroValue170
 t51 := Tryz.underlying230
 a51 := Tryz.isAgg230
 z51 := Tryz.sizeOf230
 v51 := Tryz.zeroValue230
 t105 := Tryz.underlying354
 a105 := Tryz.isAgg354
 z105 := Tryz.sizeOf354
 v105 := Tryz.zeroValue354
 t119 := Tryz.underlying357
 a119 := Tryz.isAgg357
 z119 := Tryz.sizeOf357
 t138 := Tryz.underlying359
 a138 := Tryz.isAgg359
 z138 := Tryz.sizeOf359
 v138 := Tryz.zeroValue359
 t139 := Tryz.underlying360
 a139 := Tryz.isAgg360
 z139 := Tryz.sizeOf360
 v139 := Tryz.zeroValue360
 t146 := Tryz.underlying322
 a146 := Tryz.isAgg322
 z146 := Tryz.sizeOf322
 v146 := Tryz.zeroValue322
 g1 := by kernel_rfl
 g3 := by kernel_rfl
 g4 := by kernel_rfl
 i0 := by kernel_rfl
 i3 := by kernel_rfl
 i4 := by kernel_rfl
 i5 := by kernel_rfl
 i9 := by kernel_rfl
 i21 := by kernel_rfl
 i31 := by kernel_rfl
 i46 := by kernel_rfl
 i51 := by kernel_rfl
 i105 := by kernel_rfl
 i138 := by kernel_rfl
 i139 := by kernel_rfl
 i146 := by kernel_rfl
 m1 := by kernel_rfl
 s1_3 := fun w h => Go.Proofs.cell_of_shapedOpen_int (zero := #[.int .i64 0]) (t := 3) h (of_decide_eq_true (by kernel_rfl)) (by kernel_rfl) rfl (by kernel_rfl) (by kernel_rfl) Tryz.underlying3
 m3 := by kernel_rfl
 m4 := by kernel_rfl }
open Go.RowKit
theorem Zdw (s : ByteArray) (w0 : World) (hs : s.size ≤ 9223372036854775806) : Calls prog 135 #[.string s] w0 fun e w' => e = .returned (.int .i64 (Us s)) ∧ Below w0.heap.size w0 w' := by
 have E := Bx.mk (St.start w0);refine ent func135 ntmps135 ?_;refine xsr<|xr 1 rfl<|xne<|xsr<|xr 1 rfl<|xne<|xsr<|xr 1 rfl<|xne<|xsq<|xsr<|xr 1 rfl<|xne<|xbl ?_;intro a J;refine Zs (ι := Nat) (fun k a w => (k ≤ s.size) ∧ Fr 28 a [(0, .string s), (3, .int .i64 ((Zb4 s k).1)), (4, .int .i64 ((Zb4 s k).2)), (5, .int .i64 (k : Int))] ∧ St w0 ([]) w) (fun k => s.size - k) 0 ⟨(Nat.zero_le _), J.ls _, E.o⟩ ?_;clear J E; clear a;rintro k a w1 ⟨hk, J, E⟩;replace E := Bx.mk E;have hb := Zjf s k;have hbyte := Zjg s k;revert a;refine xsq<|xsr<|xr 2 rfl<|xy rfl (fun a J=>ZI rfl (J.ev rfl) (by kernel_rfl))<|xr 1 rfl<|xne<|xcs 9 rfl (fun cc1=>?_) fun cc1=>?_
 have cc1 := of_decide_eq_true cc1;refine xct rfl<|xsk<|xet<|xsq<|xbl<|xsr<|xr 3 rfl<|xy rfl (fun a J=>YG (i := k) rfl (J.ev rfl) (J.ev rfl) (by kernel_rfl) rfl (by omega))<|xy rfl (fun a J=>Uq rfl (J.ev rfl) (Zjg _ _) (by kernel_rfl) (by kernel_rfl))<|xy rfl (vad rfl)<|xy rfl (vad rfl)<|xy rfl (fun a J=>Qx rfl (J.ev rfl) (J.ev rfl) (by omega) (Qy (by omega) (by omega)))<|xr 1 rfl<|xne<|xrl<|xr 2 rfl<|xy rfl (vad rfl)<|xy rfl (fun a J=>Qx rfl (J.ev rfl) (J.ev rfl) (by omega) (Qy (by omega) (by omega)))<|xr 1 rfl<|xni<|xeb<|xet<|xrl<|xr 1 rfl<|xy rfl (vad rfl)<|xr 1 rfl<|xne ?_;intro a J;exact ⟨k + 1, ⟨(by omega), J.less _ ⟨rfl, rfl, rfl, rfl, trivial⟩, E.o⟩, (by omega)⟩;have cc1 := of_decide_eq_false cc1;obtain rfl : k = s.size := by omega
 refine xcf rfl<|xex<|xtx<|xtx<|xbh<|xet<|xsr<|xr 1 rfl<|xy rfl (fun a J=>Xm rfl (J.ev rfl) (J.ev rfl) (Yb (by omega)))<|xr 1 rfl<|xy rfl (vad rfl)<|xr 1 rfl<|xne<|xre<|xb1 results135 rfl ?_;exact ⟨rfl, E.o.bel⟩
theorem ZgV (s : ByteArray) (w0 : World) (hs : s.size ≤ 9223372036854775806) : Calls prog 247 #[.string s] w0 fun e w' => e = .returned (.bool (inB (s.size : Int) 1 128)) ∧ Below w0.heap.size w0 w' := by
 have E := Bx.mk (St.start w0);refine ent func247 ntmps247 ?_;refine xsr<|xr 1 rfl<|xne<|xsr<|xr 1 rfl<|xy rfl (fun a J=>ZI rfl (J.ev rfl) (by kernel_rfl)) ?_;refine ycB ((Z2 (s.size : Int) 1 128 _).mono fun _ _ h => ⟨h.1, h.2 ▸ Below.refl _ _⟩) func34 E ?_;clear E;intro w1 E;refine xr 1 rfl<|xne<|xre<|xb1 results247 rfl ?_;exact ⟨rfl, E.o.bel⟩
theorem Qb (at_ birth level : Int) (s : ByteArray) (w0 : World) (hs : s.size ≤ 9223372036854775806) : Calls prog 187 #[.int .i64 at_, .int .i64 birth, .int .i64 level, .string s] w0 fun e w' => e = .returned (.tuple #[pV (YX at_ birth level s), .bool (Xu at_ birth level s)]) ∧ Below w0.heap.size w0 w' := by
 have E := Bx.mk (St.start w0);refine ent func187 ntmps187 ?_;refine xsr ?_;refine yal z5 E ?_;clear E;intro w1 b1 E;refine xr 1 rfl<|xne<|xsr<|xr 3 rfl<|xy rfl (fun a J=>ZI rfl (J.ev rfl) (by kernel_rfl))<|xr 1 rfl<|xy rfl (vb [.int .i64 at_, .int .i64 birth, .int .i64 (s.size : Int), .int .i64 0, .int .i64 level] rfl) ?_;refine yal z5 E ?_;clear E;intro w2 b2 E;refine yst E 0 ?_;clear E;intro w3 E;replace E:=E.nm;refine xne<|xsq<|xsr<|xr 1 rfl ?_;refine ycB (ZgV s _ (by omega)) func247 E ?_;clear E;intro w4 E;refine xr 1 rfl<|xne<|xcs 19 rfl (fun cc1=>?_) fun cc1=>?_;intro a J
 -- !(inB (s.size : Int) 1 128)
 revert a;refine xct rfl<|xsr<|xy rfl (vb z5 rfl) ?_;refine yst E 1 ?_;clear E;intro w5 E;replace E:=E.nm;refine xr 1 rfl<|xne<|xre<|xtr ?_;intro a J;refine Z7 J results187 (J.resBox rfl (E.o.box 1 rfl) (by kernel_rfl)) (J.res rfl) ?_;have cc1 := (Bool.not_eq_eq_eq_not.1 cc1);have hk : Xu at_ birth level s = false := by
   unfold Xu YM;rw [cc1]; rfl
 refine ⟨?_, E.o.bel⟩;rw [ZgQ hk, hk]; rfl;intro a J
 -- !(inB (s.size : Int) 1 128)
 revert a;refine xcf rfl<|xsk<|xet<|xsr<|xr 1 rfl ?_;refine ycB (Zdw s _ (by omega)) func135 E ?_;clear E;intro w6 E;refine Xf 3 rfl ?_;refine ysF 0 E ?_;clear E;intro w7 E;replace E:=E.nm;refine xne<|xsq<|xsr<|Xw 0 5 E rfl rfl ?_;refine ycB (ZN ({ aB := at_, aj := birth, av := (s.size : Int), aC := Us s, aq := level } : PtrD) _) func99 E ?_;clear E;intro w8 E;refine xr 1 rfl<|xne<|xcs 26 rfl (fun cc2=>?_) fun cc2=>?_;intro a J
 -- !(({ aB := at_, aj := birth, av := (s.size : Int), aC := Us s, aq := level } : PtrD).ok)
 revert a;refine xct rfl<|xsr<|xy rfl (vb z5 rfl) ?_;refine yst E 1 ?_;clear E;intro w9 E;replace E:=E.nm;refine xr 1 rfl<|xne<|xre<|xtr ?_;intro a J;refine Z7 J results187 (J.resBox rfl (E.o.box 1 rfl) (by kernel_rfl)) (J.res rfl) ?_;have cc1 := (Bool.not_eq_eq_eq_not.1 cc1);have cc2 := (Bool.not_eq_eq_eq_not.1 cc2);have hk : Xu at_ birth level s = false := by
   unfold Xu YM;rw [cc1, cc2]; rfl
 refine ⟨?_, E.o.bel⟩;rw [ZgQ hk, hk]; rfl;intro a J
 -- !(({ aB := at_, aj := birth, av := (s.size : Int), aC := Us s, aq := level } : PtrD).ok)
 revert a;refine xcf rfl<|xsk<|xet<|xsr<|Xw 0 5 E rfl rfl ?_;refine yst E 1 ?_;clear E;intro w10 E;replace E:=E.nm;refine xr 1 rfl<|xne<|xre ?_;intro a J;refine Z7 J results187 (J.resBox rfl (E.o.box 1 rfl) (by kernel_rfl)) (J.res rfl) ?_;have cc1 := (Bool.not_eq_eq_eq_not.1 cc1);have cc2 := (Bool.not_eq_eq_eq_not.1 cc2);have hk : Xu at_ birth level s = true := by
   unfold Xu YM;rw [cc1, cc2]; rfl
 refine ⟨?_, E.o.bel⟩;rw [ZeU hk, hk]; rfl
end Go.Proofs.YthnbgnjpbmnelaaGreatDoor
