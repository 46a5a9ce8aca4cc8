/- A part of the proof in YthnbgnjpbmnelaaGreatDoorTqX34. -/
import Derived.Shelf.Strconv.Itoa3
import Derived.Shelf.Strings.BuilderF
import Derived.Shelf.Strings.BuilderK
import Derived.Shelf.Strings.OnBuilder
import Derived.Test.YthnbgnjpbmnelaaGreatDoorTqX8
namespace Go.Proofs.YthnbgnjpbmnelaaGreatDoor
open Go.Proofs.Tryz
open List (getD_eq_getElem?_getD)
set_option linter.unusedVariables false
set_option linter.unusedSimpArgs false
set_option maxHeartbeats 1000000
set_option maxRecDepth 100000
open Go.Shelf
def Zlq : Go.Shelf.Ren := ⟨fun | 129 => 208 | 171 => 93 | 243 => 162 | 246 => 221 | 283 => 276 | 284 => 277 | 285 => 278 | 286 => 279 | 317 => 316 | 318 => 317 | 319 => 318 | 320 => 319 | 337 => 337 | 338 => 338 | n => n, fun | 0 => 0 | 2 => 2 | 3 => 3 | 4 => 4 | 5 => 5 | 9 => 9 | 20 => 20 | 37 => 54 | 46 => 170 | 51 => 230 | 53 => 232 | 171 => 292 | 173 => 294 | 212 => 330 | 213 => 331 | 232 => 352 | 233 => 353 | n => n, fun | 17 => 3 | 18 => 4 | 19 => 5 | n => n⟩
theorem Zne : Go.Proofs.LaysM.n171 prog Zlq := {
 mixed := by kernel_rfl
 f129 := Tryz.func208.trans (congrArg some (by kernel_rfl))
 f171 := Tryz.func93.trans (congrArg some (by kernel_rfl))
 f243 := Tryz.func162.trans (congrArg some (by kernel_rfl))
 f246 := Tryz.func221.trans (congrArg some (by kernel_rfl))
 f283 := Tryz.func276.trans (congrArg some (by kernel_rfl))
 f284 := Tryz.func277.trans (congrArg some (by kernel_rfl))
 f285 := Tryz.func278.trans (congrArg some (by kernel_rfl))
 f286 := Tryz.func279.trans (congrArg some (by kernel_rfl))
 f317 := Tryz.func316.trans (congrArg some (by kernel_rfl))
 f318 := Tryz.func317.trans (congrArg some (by kernel_rfl))
 f319 := Tryz.func318.trans (congrArg some (by kernel_rfl))
 f320 := Tryz.func319.trans (congrArg some (by kernel_rfl))
 f337 := Tryz.func337.trans (congrArg some (by kernel_rfl))
 f338 := Tryz.func338.trans (congrArg some (by kernel_rfl))
 t0 := Tryz.underlying0
 a0 := Tryz.isAgg0
 z0 := Tryz.sizeOf0
 v0 := Tryz.zeroValue0
 t2 := Tryz.underlying2
 a2 := Tryz.isAgg2
 z2 := Tryz.sizeOf2
 v2 := Tryz.zeroValue2
 t3 := Tryz.underlying3
 a3 := Tryz.isAgg3
 z3 := Tryz.sizeOf3
 v3 := Tryz.zeroValue3
 t4 := Tryz.underlying4
 a4 := Tryz.isAgg4
 z4 := Tryz.sizeOf4
 v4 := Tryz.zeroValue4
 t5 := Tryz.underlying5
 a5 := Tryz.isAgg5
 z5 := Tryz.sizeOf5
 v5 := Tryz.zeroValue5
 t9 := Tryz.underlying9
 a9 := Tryz.isAgg9
 z9 := Tryz.sizeOf9
 v9 := Tryz.zeroValue9
 t20 := Tryz.underlying20
 a20 := Tryz.isAgg20
 z20 := Tryz.sizeOf20
 v20 := Tryz.zeroValue20
 t37 := Tryz.underlying54
 a37 := Tryz.isAgg54
 z37 := Tryz.sizeOf54
 v37 := Tryz.zeroValue54
 t46 := Tryz.underlying170
 a46 := Tryz.isAgg170
 z46 := Tryz.sizeOf170
 v46 := Tryz.zeroValue170
 t51 := Tryz.underlying230
 a51 := Tryz.isAgg230
 z51 := Tryz.sizeOf230
 v51 := Tryz.zeroValue230
 t53 := Tryz.underlying232
 a53 := Tryz.isAgg232
 z53 := Tryz.sizeOf232
 v53 := Tryz.zeroValue232
 t171 := Tryz.underlying292
 a171 := Tryz.isAgg292
 z171 := Tryz.sizeOf292
 v171 := Tryz.zeroValue292
 t173 := Tryz.underlying294
 a173 := Tryz.isAgg294
 z173 := Tryz.sizeOf294
 v173 := Tryz.zeroValue294
 t212 := Tryz.underlying330
 a212 := Tryz.isAgg330
 z212 := Tryz.sizeOf330
 v212 := Tryz.zeroValue330
 t213 := Tryz.underlying331
 a213 := Tryz.isAgg331
 z213 := Tryz.sizeOf331
 t232 := Tryz.underlying352
 a232 := Tryz.isAgg352
 z232 := Tryz.sizeOf352
 v232 := Tryz.zeroValue352
 t233 := Tryz.underlying353
 a233 := Tryz.isAgg353
 z233 := Tryz.sizeOf353
 v233 := Tryz.zeroValue353
 g17 := by kernel_rfl
 g18 := by kernel_rfl
 g19 := by kernel_rfl
 i0 := by kernel_rfl
 i2 := by kernel_rfl
 i3 := by kernel_rfl
 i4 := by kernel_rfl
 i5 := by kernel_rfl
 i9 := by kernel_rfl
 i20 := by kernel_rfl
 i37 := by kernel_rfl
 i46 := by kernel_rfl
 i51 := by kernel_rfl
 i53 := by kernel_rfl
 i171 := by kernel_rfl
 i173 := by kernel_rfl
 i212 := by kernel_rfl
 i232 := by kernel_rfl
 i233 := by kernel_rfl
 m17 := by kernel_rfl
 m18 := by kernel_rfl
 m19 := by kernel_rfl }
def V4 : Go.Shelf.Ren := ⟨fun | 156 => 92 | 165 => 161 | 166 => 151 | 169 => 154 | 240 => 216 | 241 => 220 | 276 => 265 | 277 => 275 | n => n, fun | 0 => 0 | 3 => 3 | 4 => 4 | 5 => 5 | 9 => 9 | 20 => 20 | 31 => 22 | 37 => 54 | 70 => 178 | 72 => 180 | 75 => 182 | 76 => 183 | 80 => 187 | 127 => 244 | 164 => 282 | n => n, fun | n => n⟩
theorem Zjd : Go.Proofs.Builder.Extra prog V4 := {
 sizeBuilder := by kernel_rfl
 liesBuilder := by kernel_rfl
 t5 := Tryz.underlying5
 a5 := Tryz.isAgg5
 z5 := Tryz.sizeOf5
 v5 := Tryz.zeroValue5
 infoByte := by kernel_rfl
 cellsByte := by kernel_rfl
 sizeByte := by kernel_rfl
 neB5 := by decide }
theorem Zo4 : Go.Proofs.Lays.n166 prog V4 := {
 mixed := by kernel_rfl
 f166 := Tryz.func151.trans (congrArg some (by kernel_rfl))
 f240 := Tryz.func216.trans (congrArg some (by kernel_rfl))
 f276 := Tryz.func265.trans (congrArg some (by kernel_rfl))
 t0 := Tryz.underlying0
 a0 := Tryz.isAgg0
 z0 := Tryz.sizeOf0
 v0 := Tryz.zeroValue0
 t3 := Tryz.underlying3
 a3 := Tryz.isAgg3
 z3 := Tryz.sizeOf3
 v3 := Tryz.zeroValue3
 t4 := Tryz.underlying4
 a4 := Tryz.isAgg4
 z4 := Tryz.sizeOf4
 v4 := Tryz.zeroValue4
 t9 := Tryz.underlying9
 a9 := Tryz.isAgg9
 z9 := Tryz.sizeOf9
 v9 := Tryz.zeroValue9
 t20 := Tryz.underlying20
 a20 := Tryz.isAgg20
 z20 := Tryz.sizeOf20
 v20 := Tryz.zeroValue20
 t37 := Tryz.underlying54
 a37 := Tryz.isAgg54
 z37 := Tryz.sizeOf54
 v37 := Tryz.zeroValue54
 t70 := Tryz.underlying178
 a70 := Tryz.isAgg178
 z70 := Tryz.sizeOf178
 v70 := Tryz.zeroValue178
 t72 := Tryz.underlying180
 a72 := Tryz.isAgg180
 z72 := Tryz.sizeOf180
 v72 := Tryz.zeroValue180
 t75 := Tryz.underlying182
 a75 := Tryz.isAgg182
 z75 := Tryz.sizeOf182
 v75 := Tryz.zeroValue182
 t164 := Tryz.underlying282
 a164 := Tryz.isAgg282
 z164 := Tryz.sizeOf282
 v164 := Tryz.zeroValue282 }
theorem Zo5 : Go.Proofs.Lays.n169 prog V4 := {
 mixed := by kernel_rfl
 f169 := Tryz.func154.trans (congrArg some (by kernel_rfl))
 t0 := Tryz.underlying0
 a0 := Tryz.isAgg0
 z0 := Tryz.sizeOf0
 v0 := Tryz.zeroValue0
 t3 := Tryz.underlying3
 a3 := Tryz.isAgg3
 z3 := Tryz.sizeOf3
 v3 := Tryz.zeroValue3
 t9 := Tryz.underlying9
 a9 := Tryz.isAgg9
 z9 := Tryz.sizeOf9
 v9 := Tryz.zeroValue9
 t37 := Tryz.underlying54
 a37 := Tryz.isAgg54
 z37 := Tryz.sizeOf54
 v37 := Tryz.zeroValue54
 t70 := Tryz.underlying178
 a70 := Tryz.isAgg178
 z70 := Tryz.sizeOf178
 v70 := Tryz.zeroValue178
 t72 := Tryz.underlying180
 a72 := Tryz.isAgg180
 z72 := Tryz.sizeOf180
 v72 := Tryz.zeroValue180
 t127 := Tryz.underlying244
 a127 := Tryz.isAgg244
 z127 := Tryz.sizeOf244
 v127 := Tryz.zeroValue244 }
theorem Zje : Go.Proofs.Lays.n156 prog V4 := {
 mixed := by kernel_rfl
 f156 := Tryz.func92.trans (congrArg some (by kernel_rfl))
 f165 := Tryz.func161.trans (congrArg some (by kernel_rfl))
 f166 := Tryz.func151.trans (congrArg some (by kernel_rfl))
 f169 := Tryz.func154.trans (congrArg some (by kernel_rfl))
 f240 := Tryz.func216.trans (congrArg some (by kernel_rfl))
 f241 := Tryz.func220.trans (congrArg some (by kernel_rfl))
 f276 := Tryz.func265.trans (congrArg some (by kernel_rfl))
 f277 := Tryz.func275.trans (congrArg some (by kernel_rfl))
 t0 := Tryz.underlying0
 a0 := Tryz.isAgg0
 z0 := Tryz.sizeOf0
 v0 := Tryz.zeroValue0
 t3 := Tryz.underlying3
 a3 := Tryz.isAgg3
 z3 := Tryz.sizeOf3
 v3 := Tryz.zeroValue3
 t4 := Tryz.underlying4
 a4 := Tryz.isAgg4
 z4 := Tryz.sizeOf4
 v4 := Tryz.zeroValue4
 t9 := Tryz.underlying9
 a9 := Tryz.isAgg9
 z9 := Tryz.sizeOf9
 v9 := Tryz.zeroValue9
 t20 := Tryz.underlying20
 a20 := Tryz.isAgg20
 z20 := Tryz.sizeOf20
 v20 := Tryz.zeroValue20
 t31 := Tryz.underlying22
 a31 := Tryz.isAgg22
 z31 := Tryz.sizeOf22
 v31 := Tryz.zeroValue22
 t37 := Tryz.underlying54
 a37 := Tryz.isAgg54
 z37 := Tryz.sizeOf54
 v37 := Tryz.zeroValue54
 t70 := Tryz.underlying178
 a70 := Tryz.isAgg178
 z70 := Tryz.sizeOf178
 v70 := Tryz.zeroValue178
 t72 := Tryz.underlying180
 a72 := Tryz.isAgg180
 z72 := Tryz.sizeOf180
 v72 := Tryz.zeroValue180
 t75 := Tryz.underlying182
 a75 := Tryz.isAgg182
 z75 := Tryz.sizeOf182
 v75 := Tryz.zeroValue182
 t76 := Tryz.underlying183
 a76 := Tryz.isAgg183
 z76 := Tryz.sizeOf183
 v76 := Tryz.zeroValue183
 t127 := Tryz.underlying244
 a127 := Tryz.isAgg244
 z127 := Tryz.sizeOf244
 v127 := Tryz.zeroValue244
 t164 := Tryz.underlying282
 a164 := Tryz.isAgg282
 z164 := Tryz.sizeOf282
 v164 := Tryz.zeroValue282 }
def ZeT : Go.Shelf.Ren := ⟨fun | 167 => 152 | 240 => 216 | 276 => 265 | n => n, fun | 0 => 0 | 4 => 4 | 5 => 5 | 9 => 9 | 20 => 20 | 37 => 54 | 70 => 178 | 72 => 180 | 75 => 182 | 80 => 187 | 164 => 282 | n => n, fun | n => n⟩
theorem Zoo : Go.Proofs.Builder.Extra prog ZeT := {
 sizeBuilder := by kernel_rfl
 liesBuilder := by kernel_rfl
 t5 := Tryz.underlying5
 a5 := Tryz.isAgg5
 z5 := Tryz.sizeOf5
 v5 := Tryz.zeroValue5
 infoByte := by kernel_rfl
 cellsByte := by kernel_rfl
 sizeByte := by kernel_rfl
 neB5 := by decide }
theorem Zo6 : Go.Proofs.Lays.n167 prog ZeT := {
 mixed := by kernel_rfl
 f167 := Tryz.func152.trans (congrArg some (by kernel_rfl))
 f240 := Tryz.func216.trans (congrArg some (by kernel_rfl))
 f276 := Tryz.func265.trans (congrArg some (by kernel_rfl))
 t0 := Tryz.underlying0
 a0 := Tryz.isAgg0
 z0 := Tryz.sizeOf0
 v0 := Tryz.zeroValue0
 t4 := Tryz.underlying4
 a4 := Tryz.isAgg4
 z4 := Tryz.sizeOf4
 v4 := Tryz.zeroValue4
 t5 := Tryz.underlying5
 a5 := Tryz.isAgg5
 z5 := Tryz.sizeOf5
 v5 := Tryz.zeroValue5
 t9 := Tryz.underlying9
 a9 := Tryz.isAgg9
 z9 := Tryz.sizeOf9
 v9 := Tryz.zeroValue9
 t20 := Tryz.underlying20
 a20 := Tryz.isAgg20
 z20 := Tryz.sizeOf20
 v20 := Tryz.zeroValue20
 t37 := Tryz.underlying54
 a37 := Tryz.isAgg54
 z37 := Tryz.sizeOf54
 v37 := Tryz.zeroValue54
 t70 := Tryz.underlying178
 a70 := Tryz.isAgg178
 z70 := Tryz.sizeOf178
 v70 := Tryz.zeroValue178
 t72 := Tryz.underlying180
 a72 := Tryz.isAgg180
 z72 := Tryz.sizeOf180
 v72 := Tryz.zeroValue180
 t75 := Tryz.underlying182
 a75 := Tryz.isAgg182
 z75 := Tryz.sizeOf182
 v75 := Tryz.zeroValue182
 t164 := Tryz.underlying282
 a164 := Tryz.isAgg282
 z164 := Tryz.sizeOf282
 v164 := Tryz.zeroValue282 }
def ZjT : Go.Shelf.Ren := ⟨fun | 170 => 153 | n => n, fun | 0 => 0 | 3 => 3 | 5 => 5 | 37 => 54 | 70 => 178 | 72 => 180 | n => n, fun | n => n⟩
theorem Zo7 : Go.Proofs.Lays.n170 prog ZjT := {
 mixed := by kernel_rfl
 f170 := Tryz.func153.trans (congrArg some (by kernel_rfl))
 t0 := Tryz.underlying0
 a0 := Tryz.isAgg0
 z0 := Tryz.sizeOf0
 v0 := Tryz.zeroValue0
 t3 := Tryz.underlying3
 a3 := Tryz.isAgg3
 z3 := Tryz.sizeOf3
 v3 := Tryz.zeroValue3
 t37 := Tryz.underlying54
 a37 := Tryz.isAgg54
 z37 := Tryz.sizeOf54
 v37 := Tryz.zeroValue54
 t70 := Tryz.underlying178
 a70 := Tryz.isAgg178
 z70 := Tryz.sizeOf178
 v70 := Tryz.zeroValue178
 t72 := Tryz.underlying180
 a72 := Tryz.isAgg180
 z72 := Tryz.sizeOf180
 v72 := Tryz.zeroValue180 }
open Go.RowKit
structure Zo8 where
  aB : Int
  aF : ByteArray
structure Zoh where
  fCells : List ByteArray
  fWaits : List Zo8
  ai : Bool
theorem Yo {a b : ByteArray} (h : a.data.toList = b.data.toList) : a = b := by
 cases a; cases b
 congr
 exact Array.toList_inj.1 h
theorem Zf (a : ByteArray) : a.size = a.data.toList.length := by show a.data.size = _; rw [Array.length_toList]
theorem Z8 (a : ByteArray) (i j : Nat) : (a.extract i j).data.toList = (a.data.toList.drop i).take (j - i) := by
 rw [ByteArray.data_extract, Array.toList_extract, List.extract_eq_take_drop]
theorem Zz (a b : ByteArray) : (a ++ b).data.toList = a.data.toList ++ b.data.toList := by simp
theorem Zlr (a : ByteArray) (i : Nat) : a.get! i = a.data.toList.getD i 0 := by
 cases a with | mk d =>
 show d[i]! = d.toList.getD i 0;rw [getD_eq_getElem?_getD, Array.getElem?_toList]
 cases h : d[i]? <;> simp [getElem!_def, h] <;> rfl
end Go.Proofs.YthnbgnjpbmnelaaGreatDoor
