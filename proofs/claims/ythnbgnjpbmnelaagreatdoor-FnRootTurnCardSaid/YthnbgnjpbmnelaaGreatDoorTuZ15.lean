/- A part of the proof in YthnbgnjpbmnelaaGreatDoorTuZ31. -/
import Derived.Shelf.Small.Wraps
import Derived.Shelf.Strings.FuncGrows
import Derived.Shelf.Strings.Split
import Derived.Shelf.Strings.SplitShaped
import Derived.Shelf.Vars
import Derived.Test.YthnbgnjpbmnelaaGreatDoorTuZ14
/- The library at names and paths: laid at this dump. -/
namespace Go.Proofs.YthnbgnjpbmnelaaGreatDoor
set_option linter.unusedVariables false
set_option linter.unusedSimpArgs false
set_option maxHeartbeats 1000000
set_option maxRecDepth 100000
open Go.Shelf

def Zdi : Go.Shelf.Ren := ⟨fun | 138 => 340 | 143 => 341 | 146 => 292 | 195 => 348 | 197 => 349 | 217 => 266 | 218 => 350 | 219 => 217 | 221 => 321 | 224 => 268 | 225 => 267 | 260 => 352 | 266 => 312 | 267 => 269 | 268 => 339 | 314 => 313 | n => n, fun | 0 => 0 | 3 => 3 | 4 => 4 | 5 => 5 | 9 => 9 | 21 => 21 | 31 => 22 | 46 => 170 | 51 => 230 | 105 => 354 | 119 => 357 | 138 => 359 | 139 => 360 | 146 => 322 | n => n, fun | 1 => 0 | 3 => 6 | 4 => 7 | n => n⟩
theorem U7 : Go.Proofs.LaysM.n146 Tryz.prog Zdi := {
  mixed := by kernel_rfl
  f138 := Tryz.func340.trans (congrArg some (by kernel_rfl))
  f143 := Tryz.func341.trans (congrArg some (by kernel_rfl))
  f146 := Tryz.func292.trans (congrArg some (by kernel_rfl))
  f195 := Tryz.func348.trans (congrArg some (by kernel_rfl))
  f197 := Tryz.func349.trans (congrArg some (by kernel_rfl))
  f217 := Tryz.func266.trans (congrArg some (by kernel_rfl))
  f218 := Tryz.func350.trans (congrArg some (by kernel_rfl))
  f219 := Tryz.func217.trans (congrArg some (by kernel_rfl))
  f221 := Tryz.func321.trans (congrArg some (by kernel_rfl))
  f224 := Tryz.func268.trans (congrArg some (by kernel_rfl))
  f225 := Tryz.func267.trans (congrArg some (by kernel_rfl))
  f260 := Tryz.func352.trans (congrArg some (by kernel_rfl))
  f266 := Tryz.func312.trans (congrArg some (by kernel_rfl))
  f267 := Tryz.func269.trans (congrArg some (by kernel_rfl))
  f268 := Tryz.func339.trans (congrArg some (by kernel_rfl))
  f314 := Tryz.func313.trans (congrArg some (by kernel_rfl))
  t0 := Tryz.underlying0
  a0 := Tryz.isAgg0
  z0 := Tryz.sizeOf0
  v0 := Tryz.zeroValue0
  t3 := Tryz.underlying3
  a3 := Tryz.isAgg3
  z3 := Tryz.sizeOf3
  v3 := Tryz.zeroValue3
  t4 := Tryz.underlying4
  a4 := Tryz.isAgg4
  z4 := Tryz.sizeOf4
  v4 := Tryz.zeroValue4
  t5 := Tryz.underlying5
  a5 := Tryz.isAgg5
  z5 := Tryz.sizeOf5
  v5 := Tryz.zeroValue5
  t9 := Tryz.underlying9
  a9 := Tryz.isAgg9
  z9 := Tryz.sizeOf9
  v9 := Tryz.zeroValue9
  t21 := Tryz.underlying21
  a21 := Tryz.isAgg21
  z21 := Tryz.sizeOf21
  v21 := Tryz.zeroValue21
  t31 := Tryz.underlying22
  a31 := Tryz.isAgg22
  z31 := Tryz.sizeOf22
  v31 := Tryz.zeroValue22
  t46 := Tryz.underlying170
  a46 := Tryz.isAgg170
  z46 := Tryz.sizeOf170
  v46 := Tryz.zeroValue170
  t51 := Tryz.underlying230
  a51 := Tryz.isAgg230
  z51 := Tryz.sizeOf230
  v51 := Tryz.zeroValue230
  t105 := Tryz.underlying354
  a105 := Tryz.isAgg354
  z105 := Tryz.sizeOf354
  v105 := Tryz.zeroValue354
  t119 := Tryz.underlying357
  a119 := Tryz.isAgg357
  z119 := Tryz.sizeOf357
  t138 := Tryz.underlying359
  a138 := Tryz.isAgg359
  z138 := Tryz.sizeOf359
  v138 := Tryz.zeroValue359
  t139 := Tryz.underlying360
  a139 := Tryz.isAgg360
  z139 := Tryz.sizeOf360
  v139 := Tryz.zeroValue360
  t146 := Tryz.underlying322
  a146 := Tryz.isAgg322
  z146 := Tryz.sizeOf322
  v146 := Tryz.zeroValue322
  g1 := by kernel_rfl
  g3 := by kernel_rfl
  g4 := by kernel_rfl
  i0 := by kernel_rfl
  i3 := by kernel_rfl
  i4 := by kernel_rfl
  i5 := by kernel_rfl
  i9 := by kernel_rfl
  i21 := by kernel_rfl
  i31 := by kernel_rfl
  i46 := by kernel_rfl
  i51 := by kernel_rfl
  i105 := by kernel_rfl
  i138 := by kernel_rfl
  i139 := by kernel_rfl
  i146 := by kernel_rfl
  m1 := by kernel_rfl
  s1_3 := fun w h => Go.Proofs.cell_of_shapedOpen_int (zero := #[.int .i64 0]) (t := 3) h (of_decide_eq_true (by kernel_rfl)) (by kernel_rfl) rfl (by kernel_rfl) (by kernel_rfl) Tryz.underlying3
  m3 := by kernel_rfl
  m4 := by kernel_rfl }
end Go.Proofs.YthnbgnjpbmnelaaGreatDoor

/- What StoreWrite calls: walked. -/
namespace Go.Proofs.YthnbgnjpbmnelaaGreatDoor
set_option linter.unusedVariables false
set_option linter.unusedSimpArgs false
set_option maxHeartbeats 1000000
set_option maxRecDepth 100000
open Go.RowKit

theorem Zbo (s : ByteArray) (w0 : World) (hs : s.size ≤ 9223372036854775806) : Calls Tryz.prog 194 #[.string s] w0 fun e w' => e = .returned (.int .i64 (Z2 s)) ∧ Below w0.heap.size w0 w' := by
 have HS := Bx.mk (St.start w0);refine ZB Tryz.func194 rfl Tryz.ntmps194 [(0, .string s)] ⟨rfl, trivial⟩ rfl ?_; intro a HF;refine wp_seq ?_;refine wp_region_lit ?_;refine Zb rfl HF rfl rfl (Zc rfl (HF.ev rfl)) ?_; clear HF a; intro a HF;refine wpList_nil ?_;refine Za ?_;refine wp_seq ?_;refine wp_region_lit ?_;refine Zb rfl HF rfl rfl (Zc rfl (HF.ev rfl)) ?_; clear HF a; intro a HF;refine Zb rfl HF rfl rfl (Zc rfl (HF.ev rfl)) ?_; clear HF a; intro a HF;refine wpList_nil ?_;refine Za ?_;refine wp_seq ?_;refine wp_seq ?_;refine wp_region_lit ?_;refine Zb rfl HF rfl rfl (Zd rfl (HF.ev rfl)) ?_; clear HF a; intro a HF;refine Zb rfl HF rfl rfl (YE rfl (HF.ev rfl) (by kernel_rfl)) ?_; clear HF a; intro a HF;refine Zb rfl HF rfl rfl (Zd rfl (HF.ev rfl)) ?_; clear HF a; intro a HF;refine wpList_nil ?_;refine Za ?_;refine wp_block ?_;refine Z6 (ι := Nat) (fun k a w => (k ≤ s.size) ∧ Fr 28 a [(0, .string s), (3, .int .i64 ((QL s k).1)), (4, .int .i64 ((QL s k).2)), (7, .int .i64 (s.size : Int)), (8, .int .i64 (k : Int))] ∧ St w0 ([]) w) (fun k => s.size - k) 0 ⟨(Nat.zero_le _), HF.less _ ⟨rfl, rfl, rfl, rfl, rfl, trivial⟩, HS.out⟩ ?_;clear HF HS; clear a;rintro k a w1 ⟨hk, HF, HS⟩;replace HS := Bx.mk HS;have hb := V6 s k;have hbyte := UK s k;refine wp_seq ?_;refine wp_region_lit ?_;refine Zb rfl HF rfl rfl (ZZ rfl (HF.ev rfl) (HF.ev rfl)) ?_; clear HF a; intro a HF;refine wpList_nil ?_;refine Za ?_;refine wp_seq ?_;refine HF.cases 9 rfl (fun cc1 HF1 => ?_) (fun cc1 HF1 => ?_)
 ·clear HF; have HF := HF1; clear HF1
  have cc1 := of_decide_eq_true cc1;refine Zq HF rfl ?_;refine wp_skip ?_;refine Za ?_;refine wp_seq ?_;refine wp_block ?_;refine wp_seq ?_;refine wp_region_lit ?_;refine Zb rfl HF rfl rfl (Zd rfl (HF.ev rfl)) ?_; clear HF a; intro a HF;refine Zb rfl HF rfl rfl (Zc rfl (HF.ev rfl)) ?_; clear HF a; intro a HF;refine wpList_nil ?_;refine Za ?_;refine wp_seq ?_;refine wp_region_lit ?_;refine Zb rfl HF rfl rfl (Zd rfl (HF.ev rfl)) ?_; clear HF a; intro a HF;refine Zb rfl HF rfl rfl (Zd rfl (HF.ev rfl)) ?_; clear HF a; intro a HF;refine Zb rfl HF rfl rfl (Zd rfl (HF.ev rfl)) ?_; clear HF a; intro a HF;refine Zb rfl HF rfl rfl (VE (i := k) rfl (HF.ev rfl) (HF.ev rfl) (by kernel_rfl) rfl (by omega)) ?_; clear HF a; intro a HF;refine Zb rfl HF rfl rfl (Qp rfl (HF.ev rfl) (UK _ _) (by kernel_rfl) (by kernel_rfl)) ?_; clear HF a; intro a HF;refine Zb rfl HF rfl rfl (ZK rfl (HF.ev rfl) (HF.ev rfl) (Yb (by omega))) ?_; clear HF a; intro a HF;refine Zb rfl HF rfl rfl (ZK rfl (HF.ev rfl) (HF.ev rfl) (Yb (by omega))) ?_; clear HF a; intro a HF;refine Zb rfl HF rfl rfl (Y0 rfl (HF.ev rfl) (HF.ev rfl) (by omega) (Y2 (by omega) (by omega))) ?_; clear HF a; intro a HF;refine Zb rfl HF rfl rfl (Zc rfl (HF.ev rfl)) ?_; clear HF a; intro a HF;refine wpList_nil ?_;refine Za ?_;refine wp_region_lit ?_;refine Zb rfl HF rfl rfl (Zd rfl (HF.ev rfl)) ?_; clear HF a; intro a HF;refine Zb rfl HF rfl rfl (Zd rfl (HF.ev rfl)) ?_; clear HF a; intro a HF;refine Zb rfl HF rfl rfl (ZK rfl (HF.ev rfl) (HF.ev rfl) (Yb (by omega))) ?_; clear HF a; intro a HF;refine Zb rfl HF rfl rfl (Y0 rfl (HF.ev rfl) (HF.ev rfl) (by omega) (Y2 (by omega) (by omega))) ?_; clear HF a; intro a HF;refine Zb rfl HF rfl rfl (Zc rfl (HF.ev rfl)) ?_; clear HF a; intro a HF;refine wpList_nil ?_;refine Zy ?_;refine Za ?_;refine wp_region_lit ?_;refine Zb rfl HF rfl rfl (ZK rfl (HF.ev rfl) (HF.ev rfl) (Yb (by omega))) ?_; clear HF a; intro a HF;refine Zb rfl HF rfl rfl (Zd rfl (HF.ev rfl)) ?_; clear HF a; intro a HF;refine wpList_nil ?_;refine Za ?_;exact ⟨k + 1, ⟨(by omega), HF.less _ ⟨rfl, rfl, (congrArg (fun x => some (Value.int .i64 x)) (by rw [show (QL s (k + 1)).2 = ((QL s k).2 + ((QL s k).1 + ((s.get! k).toNat : Int) + 1) % 9973) % 9973 from rfl, Int.add_comm])), rfl, rfl, trivial⟩, HS.out⟩, (by omega)⟩
 ·clear HF; have HF := HF1; clear HF1
  have cc1 := of_decide_eq_false cc1;obtain rfl : k = s.size := by omega
  refine Zp HF rfl ?_;refine wp_exit ?_;refine Zo ?_;refine Zo ?_;refine ZE ?_;refine Za ?_;refine wp_seq ?_;refine wp_region_lit ?_;refine Zb rfl HF rfl rfl (Zd rfl (HF.ev rfl)) ?_; clear HF a; intro a HF;refine Zb rfl HF rfl rfl (Qc rfl (HF.ev rfl) (HF.ev rfl) (Yb (by omega))) ?_; clear HF a; intro a HF;refine Zb rfl HF rfl rfl (Zd rfl (HF.ev rfl)) ?_; clear HF a; intro a HF;refine Zb rfl HF rfl rfl (ZK rfl (HF.ev rfl) (HF.ev rfl) (Yb (by omega))) ?_; clear HF a; intro a HF;refine Zb rfl HF rfl rfl (Zc rfl (HF.ev rfl)) ?_; clear HF a; intro a HF;refine wpList_nil ?_;refine Za ?_;refine wp_ret ?_;refine Zr HF Tryz.results194 (HF.res rfl) ?_;exact ⟨rfl, HS.out.bel⟩

theorem Jz (s : ByteArray) (w0 : World) (hs : s.size ≤ 9223372036854775806) : Calls Tryz.prog 135 #[.string s] w0 fun e w' => e = .returned (.int .i64 (Z2 s)) ∧ Below w0.heap.size w0 w' := by
 have HS := Bx.mk (St.start w0);refine ZB Tryz.func135 rfl Tryz.ntmps135 [(0, .string s)] ⟨rfl, trivial⟩ rfl ?_; intro a HF;refine wp_seq ?_;refine wp_region_lit ?_;refine Zb rfl HF rfl rfl (Zc rfl (HF.ev rfl)) ?_; clear HF a; intro a HF;refine wpList_nil ?_;refine Za ?_;refine wp_seq ?_;refine wp_region_lit ?_;refine Zb rfl HF rfl rfl (Zc rfl (HF.ev rfl)) ?_; clear HF a; intro a HF;refine wpList_nil ?_;refine Za ?_;refine wp_seq ?_;refine wp_region_lit ?_;refine Zb rfl HF rfl rfl (Zc rfl (HF.ev rfl)) ?_; clear HF a; intro a HF;refine wpList_nil ?_;refine Za ?_;refine wp_seq ?_;refine wp_seq ?_;refine wp_region_lit ?_;refine Zb rfl HF rfl rfl (Zc rfl (HF.ev rfl)) ?_; clear HF a; intro a HF;refine wpList_nil ?_;refine Za ?_;refine wp_block ?_;refine Z6 (ι := Nat) (fun k a w => (k ≤ s.size) ∧ Fr 28 a [(0, .string s), (3, .int .i64 ((QL s k).1)), (4, .int .i64 ((QL s k).2)), (5, .int .i64 (k : Int))] ∧ St w0 ([]) w) (fun k => s.size - k) 0 ⟨(Nat.zero_le _), HF.less _ ⟨rfl, rfl, rfl, rfl, trivial⟩, HS.out⟩ ?_;clear HF HS; clear a;rintro k a w1 ⟨hk, HF, HS⟩;replace HS := Bx.mk HS;have hb := V6 s k;have hbyte := UK s k;refine wp_seq ?_;refine wp_seq ?_;refine wp_region_lit ?_;refine Zb rfl HF rfl rfl (Zd rfl (HF.ev rfl)) ?_; clear HF a; intro a HF;refine Zb rfl HF rfl rfl (Zd rfl (HF.ev rfl)) ?_; clear HF a; intro a HF;refine Zb rfl HF rfl rfl (YE rfl (HF.ev rfl) (by kernel_rfl)) ?_; clear HF a; intro a HF;refine Zb rfl HF rfl rfl (ZZ rfl (HF.ev rfl) (HF.ev rfl)) ?_; clear HF a; intro a HF;refine wpList_nil ?_;refine Za ?_;refine HF.cases 9 rfl (fun cc1 HF1 => ?_) (fun cc1 HF1 => ?_)
 ·clear HF; have HF := HF1; clear HF1
  have cc1 := of_decide_eq_true cc1;refine Zq HF rfl ?_;refine wp_skip ?_;refine Za ?_;refine wp_seq ?_;refine wp_block ?_;refine wp_seq ?_;refine wp_region_lit ?_;refine Zb rfl HF rfl rfl (Zd rfl (HF.ev rfl)) ?_; clear HF a; intro a HF;refine Zb rfl HF rfl rfl (Zd rfl (HF.ev rfl)) ?_; clear HF a; intro a HF;refine Zb rfl HF rfl rfl (Zd rfl (HF.ev rfl)) ?_; clear HF a; intro a HF;refine Zb rfl HF rfl rfl (VE (i := k) rfl (HF.ev rfl) (HF.ev rfl) (by kernel_rfl) rfl (by omega)) ?_; clear HF a; intro a HF;refine Zb rfl HF rfl rfl (Qp rfl (HF.ev rfl) (UK _ _) (by kernel_rfl) (by kernel_rfl)) ?_; clear HF a; intro a HF;refine Zb rfl HF rfl rfl (ZK rfl (HF.ev rfl) (HF.ev rfl) (Yb (by omega))) ?_; clear HF a; intro a HF;refine Zb rfl HF rfl rfl (ZK rfl (HF.ev rfl) (HF.ev rfl) (Yb (by omega))) ?_; clear HF a; intro a HF;refine Zb rfl HF rfl rfl (Y0 rfl (HF.ev rfl) (HF.ev rfl) (by omega) (Y2 (by omega) (by omega))) ?_; clear HF a; intro a HF;refine Zb rfl HF rfl rfl (Zc rfl (HF.ev rfl)) ?_; clear HF a; intro a HF;refine wpList_nil ?_;refine Za ?_;refine wp_region_lit ?_;refine Zb rfl HF rfl rfl (Zd rfl (HF.ev rfl)) ?_; clear HF a; intro a HF;refine Zb rfl HF rfl rfl (Zd rfl (HF.ev rfl)) ?_; clear HF a; intro a HF;refine Zb rfl HF rfl rfl (ZK rfl (HF.ev rfl) (HF.ev rfl) (Yb (by omega))) ?_; clear HF a; intro a HF;refine Zb rfl HF rfl rfl (Y0 rfl (HF.ev rfl) (HF.ev rfl) (by omega) (Y2 (by omega) (by omega))) ?_; clear HF a; intro a HF;refine Zb rfl HF rfl rfl (Zc rfl (HF.ev rfl)) ?_; clear HF a; intro a HF;refine wpList_nil ?_;refine Zy ?_;refine Za ?_;refine wp_region_lit ?_;refine Zb rfl HF rfl rfl (Zd rfl (HF.ev rfl)) ?_; clear HF a; intro a HF;refine Zb rfl HF rfl rfl (ZK rfl (HF.ev rfl) (HF.ev rfl) (Yb (by omega))) ?_; clear HF a; intro a HF;refine Zb rfl HF rfl rfl (Zc rfl (HF.ev rfl)) ?_; clear HF a; intro a HF;refine wpList_nil ?_;refine Za ?_;exact ⟨k + 1, ⟨(by omega), HF.less _ ⟨rfl, rfl, rfl, rfl, trivial⟩, HS.out⟩, (by omega)⟩
 ·clear HF; have HF := HF1; clear HF1
  have cc1 := of_decide_eq_false cc1;obtain rfl : k = s.size := by omega
  refine Zp HF rfl ?_;refine wp_exit ?_;refine Zo ?_;refine Zo ?_;refine ZE ?_;refine Za ?_;refine wp_seq ?_;refine wp_region_lit ?_;refine Zb rfl HF rfl rfl (Zd rfl (HF.ev rfl)) ?_; clear HF a; intro a HF;refine Zb rfl HF rfl rfl (Qc rfl (HF.ev rfl) (HF.ev rfl) (Yb (by omega))) ?_; clear HF a; intro a HF;refine Zb rfl HF rfl rfl (Zd rfl (HF.ev rfl)) ?_; clear HF a; intro a HF;refine Zb rfl HF rfl rfl (ZK rfl (HF.ev rfl) (HF.ev rfl) (Yb (by omega))) ?_; clear HF a; intro a HF;refine Zb rfl HF rfl rfl (Zc rfl (HF.ev rfl)) ?_; clear HF a; intro a HF;refine wpList_nil ?_;refine Za ?_;refine wp_ret ?_;refine Zr HF Tryz.results135 (HF.res rfl) ?_;exact ⟨rfl, HS.out.bel⟩

theorem ZaF (s : ByteArray) (w0 : World) (hs : s.size ≤ 9223372036854775806) : Calls Tryz.prog 247 #[.string s] w0 fun e w' => e = .returned (.bool (inB (s.size : Int) 1 128)) ∧ Below w0.heap.size w0 w' := by
 have HS := Bx.mk (St.start w0);refine ZB Tryz.func247 rfl Tryz.ntmps247 [(0, .string s)] ⟨rfl, trivial⟩ rfl ?_; intro a HF;refine wp_seq ?_;refine wp_region_lit ?_;refine Zb rfl HF rfl rfl (Zc rfl (HF.ev rfl)) ?_; clear HF a; intro a HF;refine wpList_nil ?_;refine Za ?_;refine wp_seq ?_;refine wp_region_lit ?_;refine Zb rfl HF rfl rfl (Zd rfl (HF.ev rfl)) ?_; clear HF a; intro a HF;refine Zb rfl HF rfl rfl (YE rfl (HF.ev rfl) (by kernel_rfl)) ?_; clear HF a; intro a HF;refine ZM rfl HF rfl (Zf Tryz.func34 (by kernel_rfl) rfl) (args := #[.int .i64 (s.size : Int), .int .i64 1, .int .i64 128]) rfl (v := .bool (inB (s.size : Int) 1 128)) (((XF (s.size : Int) 1 128 _).mono fun _ _ h => ⟨h.1, h.2 ▸ Below.refl _ _⟩)) rfl rfl HS.out ?_; clear HF HS a; intro w1 a HS HF; replace HS := Bx.mk HS;refine Zb rfl HF rfl rfl (Zc rfl (HF.ev rfl)) ?_; clear HF a; intro a HF;refine wpList_nil ?_;refine Za ?_;refine wp_ret ?_;refine Zr HF Tryz.results247 (HF.res rfl) ?_;exact ⟨rfl, HS.out.bel⟩

theorem Zbp (at_ birth level : Int) (s : ByteArray) (w0 : World) (hs : s.size ≤ 9223372036854775806) : Calls Tryz.prog 187 #[.int .i64 at_, .int .i64 birth, .int .i64 level, .string s] w0 fun e w' => e = .returned (.tuple #[.agg #[.int .i64 (Ji at_ birth level s).fAt, .int .i64 (Ji at_ birth level s).fBirth, .int .i64 (Ji at_ birth level s).fSize, .int .i64 (Ji at_ birth level s).fSum, .int .i64 (Ji at_ birth level s).fLevel], .bool (QQ at_ birth level s)]) ∧ Below w0.heap.size w0 w' := by
 have HS := Bx.mk (St.start w0);refine ZB Tryz.func187 rfl Tryz.ntmps187 [(0, .int .i64 at_), (1, .int .i64 birth), (2, .int .i64 level), (3, .string s)] ⟨rfl, rfl, rfl, rfl, trivial⟩ rfl ?_; intro a HF;refine wp_seq ?_;refine wp_region_lit ?_;refine ZH rfl HF rfl rfl rfl (Z := [.int .i64 0, .int .i64 0, .int .i64 0, .int .i64 0, .int .i64 0]) (by kernel_rfl) rfl HS.out ?_; clear HF HS a; intro a w1 b1 HF HS; replace HS := Bx.mk HS;refine Zb rfl HF rfl rfl (Zc rfl (HF.ev rfl)) ?_; clear HF a; intro a HF;refine wpList_nil ?_;refine Za ?_;refine wp_seq ?_;refine wp_region_lit ?_;refine Zb rfl HF rfl rfl (Zd rfl (HF.ev rfl)) ?_; clear HF a; intro a HF;refine Zb rfl HF rfl rfl (Zd rfl (HF.ev rfl)) ?_; clear HF a; intro a HF;refine Zb rfl HF rfl rfl (Zd rfl (HF.ev rfl)) ?_; clear HF a; intro a HF;refine Zb rfl HF rfl rfl (YE rfl (HF.ev rfl) (by kernel_rfl)) ?_; clear HF a; intro a HF;refine Zb rfl HF rfl rfl (Zd rfl (HF.ev rfl)) ?_; clear HF a; intro a HF;refine Zb rfl HF rfl rfl (ZQ HF rfl (ps := [(0, .int .i64 at_), (1, .int .i64 birth), (2, .int .i64 (s.size : Int)), (4, .int .i64 level)]) rfl (cs := #[.int .i64 at_, .int .i64 birth, .int .i64 (s.size : Int), .int .i64 0, .int .i64 level]) (by kernel_rfl)) ?_; clear HF a; intro a HF;refine ZH rfl HF rfl rfl rfl (Z := [.int .i64 0, .int .i64 0, .int .i64 0, .int .i64 0, .int .i64 0]) (by kernel_rfl) rfl HS.out ?_; clear HF HS a; intro a w2 b2 HF HS; replace HS := Bx.mk HS;refine Zj rfl HF rfl rfl (HF.ev rfl) (HF.ev rfl) HS.out 0 rfl (Zm [.int .i64 at_, .int .i64 birth, .int .i64 (s.size : Int), .int .i64 0, .int .i64 level] rfl rfl) (by kernel_rfl) ?_; clear HS; intro w3 HS; replace HS := Bx.mk HS;have HS : Bx (St w0 ([boxA b2 5 40 (.agg #[.int .i64 at_, .int .i64 birth, .int .i64 (s.size : Int), .int .i64 0, .int .i64 level]), boxA b1 5 40 (.agg #[.int .i64 0, .int .i64 0, .int .i64 0, .int .i64 0, .int .i64 0])]) _) := HS;refine wpList_nil ?_;refine Za ?_;refine wp_seq ?_;refine wp_seq ?_;refine wp_region_lit ?_;refine Zb rfl HF rfl rfl (Zd rfl (HF.ev rfl)) ?_; clear HF a; intro a HF;refine ZM rfl HF rfl (Zf Tryz.func247 (by kernel_rfl) rfl) (args := #[.string s]) rfl (v := .bool (inB (s.size : Int) 1 128)) (ZaF s _ (by omega)) rfl rfl HS.out ?_; clear HF HS a; intro w4 a HS HF; replace HS := Bx.mk HS;refine Zb rfl HF rfl rfl (ZY rfl (HF.ev rfl)) ?_; clear HF a; intro a HF;refine wpList_nil ?_;refine Za ?_;refine HF.cases 19 rfl (fun cc1 HF1 => ?_) (fun cc1 HF1 => ?_)
 ·clear HF; have HF := HF1; clear HF1
  -- !(inB (s.size : Int) 1 128)
  refine Zq HF rfl ?_;refine wp_seq ?_;refine wp_region_lit ?_;refine Zb rfl HF rfl rfl (ZQ HF rfl (ps := []) rfl (cs := #[.int .i64 0, .int .i64 0, .int .i64 0, .int .i64 0, .int .i64 0]) (by kernel_rfl)) ?_; clear HF a; intro a HF;refine Zj rfl HF rfl rfl (HF.ev rfl) (HF.ev rfl) HS.out 1 rfl (Zm [.int .i64 0, .int .i64 0, .int .i64 0, .int .i64 0, .int .i64 0] rfl rfl) (by kernel_rfl) ?_; clear HS; intro w5 HS; replace HS := Bx.mk HS;have HS : Bx (St w0 ([boxA b2 5 40 (.agg #[.int .i64 at_, .int .i64 birth, .int .i64 (s.size : Int), .int .i64 0, .int .i64 level]), boxA b1 5 40 (.agg #[.int .i64 0, .int .i64 0, .int .i64 0, .int .i64 0, .int .i64 0])]) _) := HS;refine Zb rfl HF rfl rfl (Zc rfl (HF.ev rfl)) ?_; clear HF a; intro a HF;refine wpList_nil ?_;refine Za ?_;refine wp_ret ?_;refine Zg ?_;refine ZL HF Tryz.results187 (HF.resBox rfl (HS.out.box 1 rfl) (by kernel_rfl)) (HF.res rfl) ?_;have cc1 := (Bool.not_eq_eq_eq_not.1 cc1);have hk : QQ at_ birth level s = false := by
   unfold QQ VJ;rw [cc1]; rfl
  refine ⟨?_, HS.out.bel⟩;rw [ZaB hk, hk]; rfl
 ·clear HF; have HF := HF1; clear HF1
  -- !(inB (s.size : Int) 1 128)
  refine Zp HF rfl ?_;refine wp_skip ?_;refine Za ?_;refine wp_seq ?_;refine wp_region_lit ?_;refine Zb rfl HF rfl rfl (Zd rfl (HF.ev rfl)) ?_; clear HF a; intro a HF;refine ZM rfl HF rfl (Zf Tryz.func135 (by kernel_rfl) rfl) (args := #[.string s]) rfl (v := .int .i64 (Z2 s)) (Jz s _ (by omega)) rfl rfl HS.out ?_; clear HF HS a; intro w6 a HS HF; replace HS := Bx.mk HS;refine Zb rfl HF rfl rfl (Ze (j := 3) rfl (HF.ev rfl) (by kernel_rfl)) ?_; clear HF a; intro a HF;refine Yh rfl rfl rfl (HF.ev rfl) (HF.ev rfl) (by kernel_rfl) HS.out 0 rfl rfl rfl ?_; clear HS; intro w7 HS; replace HS := Bx.mk HS;have HS : Bx (St w0 ([boxA b2 5 40 (.agg #[.int .i64 at_, .int .i64 birth, .int .i64 (s.size : Int), .int .i64 (Z2 s), .int .i64 level]), boxA b1 5 40 (.agg #[.int .i64 0, .int .i64 0, .int .i64 0, .int .i64 0, .int .i64 0])]) _) := HS;refine wpList_nil ?_;refine Za ?_;refine wp_seq ?_;refine wp_seq ?_;refine wp_region_lit ?_;refine Zb rfl HF rfl rfl (Zv (cs := [.int .i64 at_, .int .i64 birth, .int .i64 (s.size : Int), .int .i64 (Z2 s), .int .i64 level]) rfl (HF.ev rfl) ((HS.out.box 0 rfl).sub 0 5) (by kernel_rfl)) ?_; clear HF a; intro a HF;refine ZM rfl HF rfl (Zf Tryz.func99 (by kernel_rfl) rfl) (args := #[.agg #[.int .i64 at_, .int .i64 birth, .int .i64 (s.size : Int), .int .i64 (Z2 s), .int .i64 level]]) rfl (v := .bool (({ fAt := at_, fBirth := birth, fSize := (s.size : Int), fSum := Z2 s, fLevel := level } : Ys).ok)) (Qm ({ fAt := at_, fBirth := birth, fSize := (s.size : Int), fSum := Z2 s, fLevel := level } : Ys) _) rfl rfl HS.out ?_; clear HF HS a; intro w8 a HS HF; replace HS := Bx.mk HS;refine Zb rfl HF rfl rfl (ZY rfl (HF.ev rfl)) ?_; clear HF a; intro a HF;refine wpList_nil ?_;refine Za ?_;refine HF.cases 26 rfl (fun cc2 HF1 => ?_) (fun cc2 HF1 => ?_)
  ·clear HF; have HF := HF1; clear HF1
   -- !(({ fAt := at_, fBirth := birth, fSize := (s.size : Int), fSum := Z2 s, fLevel := level } : Ys).ok)
   refine Zq HF rfl ?_;refine wp_seq ?_;refine wp_region_lit ?_;refine Zb rfl HF rfl rfl (ZQ HF rfl (ps := []) rfl (cs := #[.int .i64 0, .int .i64 0, .int .i64 0, .int .i64 0, .int .i64 0]) (by kernel_rfl)) ?_; clear HF a; intro a HF;refine Zj rfl HF rfl rfl (HF.ev rfl) (HF.ev rfl) HS.out 1 rfl (Zm [.int .i64 0, .int .i64 0, .int .i64 0, .int .i64 0, .int .i64 0] rfl rfl) (by kernel_rfl) ?_; clear HS; intro w9 HS; replace HS := Bx.mk HS;have HS : Bx (St w0 ([boxA b2 5 40 (.agg #[.int .i64 at_, .int .i64 birth, .int .i64 (s.size : Int), .int .i64 (Z2 s), .int .i64 level]), boxA b1 5 40 (.agg #[.int .i64 0, .int .i64 0, .int .i64 0, .int .i64 0, .int .i64 0])]) _) := HS;refine Zb rfl HF rfl rfl (Zc rfl (HF.ev rfl)) ?_; clear HF a; intro a HF;refine wpList_nil ?_;refine Za ?_;refine wp_ret ?_;refine Zg ?_;refine ZL HF Tryz.results187 (HF.resBox rfl (HS.out.box 1 rfl) (by kernel_rfl)) (HF.res rfl) ?_;have cc1 := (Bool.not_eq_eq_eq_not.1 cc1);have cc2 := (Bool.not_eq_eq_eq_not.1 cc2);have hk : QQ at_ birth level s = false := by
    unfold QQ VJ;rw [cc1, cc2]; rfl
   refine ⟨?_, HS.out.bel⟩;rw [ZaB hk, hk]; rfl
  ·clear HF; have HF := HF1; clear HF1
   -- !(({ fAt := at_, fBirth := birth, fSize := (s.size : Int), fSum := Z2 s, fLevel := level } : Ys).ok)
   refine Zp HF rfl ?_;refine wp_skip ?_;refine Za ?_;refine wp_seq ?_;refine wp_region_lit ?_;refine Zb rfl HF rfl rfl (Zv (cs := [.int .i64 at_, .int .i64 birth, .int .i64 (s.size : Int), .int .i64 (Z2 s), .int .i64 level]) rfl (HF.ev rfl) ((HS.out.box 0 rfl).sub 0 5) (by kernel_rfl)) ?_; clear HF a; intro a HF;refine Zj rfl HF rfl rfl (HF.ev rfl) (HF.ev rfl) HS.out 1 rfl (Zm [.int .i64 at_, .int .i64 birth, .int .i64 (s.size : Int), .int .i64 (Z2 s), .int .i64 level] rfl rfl) (by kernel_rfl) ?_; clear HS; intro w10 HS; replace HS := Bx.mk HS;have HS : Bx (St w0 ([boxA b2 5 40 (.agg #[.int .i64 at_, .int .i64 birth, .int .i64 (s.size : Int), .int .i64 (Z2 s), .int .i64 level]), boxA b1 5 40 (.agg #[.int .i64 at_, .int .i64 birth, .int .i64 (s.size : Int), .int .i64 (Z2 s), .int .i64 level])]) _) := HS;refine Zb rfl HF rfl rfl (Zc rfl (HF.ev rfl)) ?_; clear HF a; intro a HF;refine wpList_nil ?_;refine Za ?_;refine wp_ret ?_;refine ZL HF Tryz.results187 (HF.resBox rfl (HS.out.box 1 rfl) (by kernel_rfl)) (HF.res rfl) ?_;have cc1 := (Bool.not_eq_eq_eq_not.1 cc1);have cc2 := (Bool.not_eq_eq_eq_not.1 cc2);have hk : QQ at_ birth level s = true := by
    unfold QQ VJ;rw [cc1, cc2]; rfl
   refine ⟨?_, HS.out.bel⟩;rw [Zck hk, hk]; rfl

end Go.Proofs.YthnbgnjpbmnelaaGreatDoor
