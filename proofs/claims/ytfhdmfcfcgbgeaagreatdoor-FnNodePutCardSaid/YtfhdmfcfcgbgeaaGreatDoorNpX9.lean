/- A part of the proof in YtfhdmfcfcgbgeaaGreatDoorNpX34. -/
import Derived.Shelf.Strconv.Itoa3
import Derived.Shelf.Strings.BuilderF
import Derived.Shelf.Strings.BuilderK
import Derived.Shelf.Strings.OnBuilder
import Derived.Test.YtfhdmfcfcgbgeaaGreatDoorNpX8
namespace Go.Proofs.YtfhdmfcfcgbgeaaGreatDoor
open Go.Proofs.Tryz
open List (getD_eq_getElem?_getD)
set_option linter.unusedVariables false
set_option linter.unusedSimpArgs false
set_option maxHeartbeats 1000000
set_option maxRecDepth 100000
open Go.Shelf
def Zlu : Go.Shelf.Ren := ⟨fun | 129 => 167 | 171 => 50 | 243 => 75 | 246 => 102 | 283 => 135 | 284 => 136 | 285 => 137 | 286 => 138 | 317 => 166 | 318 => 168 | 319 => 169 | 320 => 170 | 337 => 192 | 338 => 193 | n => n, fun | 0 => 0 | 2 => 2 | 3 => 3 | 4 => 4 | 5 => 5 | 9 => 9 | 20 => 20 | 37 => 22 | 46 => 175 | 51 => 199 | 53 => 169 | 171 => 168 | 173 => 172 | 212 => 198 | 213 => 200 | 232 => 225 | 233 => 226 | n => n, fun | 17 => 3 | 18 => 4 | 19 => 5 | n => n⟩
theorem Znd : Go.Proofs.LaysM.n171 prog Zlu := {
 mixed := by kernel_rfl
 f129 := Tryz.func167.trans (congrArg some (by kernel_rfl))
 f171 := Tryz.func50.trans (congrArg some (by kernel_rfl))
 f243 := Tryz.func75.trans (congrArg some (by kernel_rfl))
 f246 := Tryz.func102.trans (congrArg some (by kernel_rfl))
 f283 := Tryz.func135.trans (congrArg some (by kernel_rfl))
 f284 := Tryz.func136.trans (congrArg some (by kernel_rfl))
 f285 := Tryz.func137.trans (congrArg some (by kernel_rfl))
 f286 := Tryz.func138.trans (congrArg some (by kernel_rfl))
 f317 := Tryz.func166.trans (congrArg some (by kernel_rfl))
 f318 := Tryz.func168.trans (congrArg some (by kernel_rfl))
 f319 := Tryz.func169.trans (congrArg some (by kernel_rfl))
 f320 := Tryz.func170.trans (congrArg some (by kernel_rfl))
 f337 := Tryz.func192.trans (congrArg some (by kernel_rfl))
 f338 := Tryz.func193.trans (congrArg some (by kernel_rfl))
 t0 := Tryz.underlying0
 a0 := Tryz.isAgg0
 z0 := Tryz.sizeOf0
 v0 := Tryz.zeroValue0
 t2 := Tryz.underlying2
 a2 := Tryz.isAgg2
 z2 := Tryz.sizeOf2
 v2 := Tryz.zeroValue2
 t3 := Tryz.underlying3
 a3 := Tryz.isAgg3
 z3 := Tryz.sizeOf3
 v3 := Tryz.zeroValue3
 t4 := Tryz.underlying4
 a4 := Tryz.isAgg4
 z4 := Tryz.sizeOf4
 v4 := Tryz.zeroValue4
 t5 := Tryz.underlying5
 a5 := Tryz.isAgg5
 z5 := Tryz.sizeOf5
 v5 := Tryz.zeroValue5
 t9 := Tryz.underlying9
 a9 := Tryz.isAgg9
 z9 := Tryz.sizeOf9
 v9 := Tryz.zeroValue9
 t20 := Tryz.underlying20
 a20 := Tryz.isAgg20
 z20 := Tryz.sizeOf20
 v20 := Tryz.zeroValue20
 t37 := Tryz.underlying22
 a37 := Tryz.isAgg22
 z37 := Tryz.sizeOf22
 v37 := Tryz.zeroValue22
 t46 := Tryz.underlying175
 a46 := Tryz.isAgg175
 z46 := Tryz.sizeOf175
 v46 := Tryz.zeroValue175
 t51 := Tryz.underlying199
 a51 := Tryz.isAgg199
 z51 := Tryz.sizeOf199
 v51 := Tryz.zeroValue199
 t53 := Tryz.underlying169
 a53 := Tryz.isAgg169
 z53 := Tryz.sizeOf169
 v53 := Tryz.zeroValue169
 t171 := Tryz.underlying168
 a171 := Tryz.isAgg168
 z171 := Tryz.sizeOf168
 v171 := Tryz.zeroValue168
 t173 := Tryz.underlying172
 a173 := Tryz.isAgg172
 z173 := Tryz.sizeOf172
 v173 := Tryz.zeroValue172
 t212 := Tryz.underlying198
 a212 := Tryz.isAgg198
 z212 := Tryz.sizeOf198
 v212 := Tryz.zeroValue198
 t213 := Tryz.underlying200
 a213 := Tryz.isAgg200
 z213 := Tryz.sizeOf200
 t232 := Tryz.underlying225
 a232 := Tryz.isAgg225
 z232 := Tryz.sizeOf225
 v232 := Tryz.zeroValue225
 t233 := Tryz.underlying226
 a233 := Tryz.isAgg226
 z233 := Tryz.sizeOf226
 v233 := Tryz.zeroValue226
 g17 := by kernel_rfl
 g18 := by kernel_rfl
 g19 := by kernel_rfl
 i0 := by kernel_rfl
 i2 := by kernel_rfl
 i3 := by kernel_rfl
 i4 := by kernel_rfl
 i5 := by kernel_rfl
 i9 := by kernel_rfl
 i20 := by kernel_rfl
 i37 := by kernel_rfl
 i46 := by kernel_rfl
 i51 := by kernel_rfl
 i53 := by kernel_rfl
 i171 := by kernel_rfl
 i173 := by kernel_rfl
 i212 := by kernel_rfl
 i232 := by kernel_rfl
 i233 := by kernel_rfl
 m17 := by kernel_rfl
 m18 := by kernel_rfl
 m19 := by kernel_rfl }
def Zaj : Go.Shelf.Ren := ⟨fun | 156 => 77 | 165 => 103 | 166 => 49 | 169 => 53 | 240 => 74 | 241 => 139 | 276 => 101 | 277 => 171 | n => n, fun | 0 => 0 | 3 => 3 | 4 => 4 | 5 => 5 | 9 => 9 | 20 => 20 | 31 => 38 | 37 => 22 | 70 => 77 | 72 => 79 | 75 => 81 | 76 => 82 | 80 => 86 | 127 => 109 | 164 => 132 | n => n, fun | n => n⟩
theorem Zjk : Go.Proofs.Builder.Extra prog Zaj := {
 sizeBuilder := by kernel_rfl
 liesBuilder := by kernel_rfl
 t5 := Tryz.underlying5
 a5 := Tryz.isAgg5
 z5 := Tryz.sizeOf5
 v5 := Tryz.zeroValue5
 infoByte := by kernel_rfl
 cellsByte := by kernel_rfl
 sizeByte := by kernel_rfl
 neB5 := by decide }
theorem Zo6 : Go.Proofs.Lays.n166 prog Zaj := {
 mixed := by kernel_rfl
 f166 := Tryz.func49.trans (congrArg some (by kernel_rfl))
 f240 := Tryz.func74.trans (congrArg some (by kernel_rfl))
 f276 := Tryz.func101.trans (congrArg some (by kernel_rfl))
 t0 := Tryz.underlying0
 a0 := Tryz.isAgg0
 z0 := Tryz.sizeOf0
 v0 := Tryz.zeroValue0
 t3 := Tryz.underlying3
 a3 := Tryz.isAgg3
 z3 := Tryz.sizeOf3
 v3 := Tryz.zeroValue3
 t4 := Tryz.underlying4
 a4 := Tryz.isAgg4
 z4 := Tryz.sizeOf4
 v4 := Tryz.zeroValue4
 t9 := Tryz.underlying9
 a9 := Tryz.isAgg9
 z9 := Tryz.sizeOf9
 v9 := Tryz.zeroValue9
 t20 := Tryz.underlying20
 a20 := Tryz.isAgg20
 z20 := Tryz.sizeOf20
 v20 := Tryz.zeroValue20
 t37 := Tryz.underlying22
 a37 := Tryz.isAgg22
 z37 := Tryz.sizeOf22
 v37 := Tryz.zeroValue22
 t70 := Tryz.underlying77
 a70 := Tryz.isAgg77
 z70 := Tryz.sizeOf77
 v70 := Tryz.zeroValue77
 t72 := Tryz.underlying79
 a72 := Tryz.isAgg79
 z72 := Tryz.sizeOf79
 v72 := Tryz.zeroValue79
 t75 := Tryz.underlying81
 a75 := Tryz.isAgg81
 z75 := Tryz.sizeOf81
 v75 := Tryz.zeroValue81
 t164 := Tryz.underlying132
 a164 := Tryz.isAgg132
 z164 := Tryz.sizeOf132
 v164 := Tryz.zeroValue132 }
theorem Zo7 : Go.Proofs.Lays.n169 prog Zaj := {
 mixed := by kernel_rfl
 f169 := Tryz.func53.trans (congrArg some (by kernel_rfl))
 t0 := Tryz.underlying0
 a0 := Tryz.isAgg0
 z0 := Tryz.sizeOf0
 v0 := Tryz.zeroValue0
 t3 := Tryz.underlying3
 a3 := Tryz.isAgg3
 z3 := Tryz.sizeOf3
 v3 := Tryz.zeroValue3
 t9 := Tryz.underlying9
 a9 := Tryz.isAgg9
 z9 := Tryz.sizeOf9
 v9 := Tryz.zeroValue9
 t37 := Tryz.underlying22
 a37 := Tryz.isAgg22
 z37 := Tryz.sizeOf22
 v37 := Tryz.zeroValue22
 t70 := Tryz.underlying77
 a70 := Tryz.isAgg77
 z70 := Tryz.sizeOf77
 v70 := Tryz.zeroValue77
 t72 := Tryz.underlying79
 a72 := Tryz.isAgg79
 z72 := Tryz.sizeOf79
 v72 := Tryz.zeroValue79
 t127 := Tryz.underlying109
 a127 := Tryz.isAgg109
 z127 := Tryz.sizeOf109
 v127 := Tryz.zeroValue109 }
theorem Zjl : Go.Proofs.Lays.n156 prog Zaj := {
 mixed := by kernel_rfl
 f156 := Tryz.func77.trans (congrArg some (by kernel_rfl))
 f165 := Tryz.func103.trans (congrArg some (by kernel_rfl))
 f166 := Tryz.func49.trans (congrArg some (by kernel_rfl))
 f169 := Tryz.func53.trans (congrArg some (by kernel_rfl))
 f240 := Tryz.func74.trans (congrArg some (by kernel_rfl))
 f241 := Tryz.func139.trans (congrArg some (by kernel_rfl))
 f276 := Tryz.func101.trans (congrArg some (by kernel_rfl))
 f277 := Tryz.func171.trans (congrArg some (by kernel_rfl))
 t0 := Tryz.underlying0
 a0 := Tryz.isAgg0
 z0 := Tryz.sizeOf0
 v0 := Tryz.zeroValue0
 t3 := Tryz.underlying3
 a3 := Tryz.isAgg3
 z3 := Tryz.sizeOf3
 v3 := Tryz.zeroValue3
 t4 := Tryz.underlying4
 a4 := Tryz.isAgg4
 z4 := Tryz.sizeOf4
 v4 := Tryz.zeroValue4
 t9 := Tryz.underlying9
 a9 := Tryz.isAgg9
 z9 := Tryz.sizeOf9
 v9 := Tryz.zeroValue9
 t20 := Tryz.underlying20
 a20 := Tryz.isAgg20
 z20 := Tryz.sizeOf20
 v20 := Tryz.zeroValue20
 t31 := Tryz.underlying38
 a31 := Tryz.isAgg38
 z31 := Tryz.sizeOf38
 v31 := Tryz.zeroValue38
 t37 := Tryz.underlying22
 a37 := Tryz.isAgg22
 z37 := Tryz.sizeOf22
 v37 := Tryz.zeroValue22
 t70 := Tryz.underlying77
 a70 := Tryz.isAgg77
 z70 := Tryz.sizeOf77
 v70 := Tryz.zeroValue77
 t72 := Tryz.underlying79
 a72 := Tryz.isAgg79
 z72 := Tryz.sizeOf79
 v72 := Tryz.zeroValue79
 t75 := Tryz.underlying81
 a75 := Tryz.isAgg81
 z75 := Tryz.sizeOf81
 v75 := Tryz.zeroValue81
 t76 := Tryz.underlying82
 a76 := Tryz.isAgg82
 z76 := Tryz.sizeOf82
 v76 := Tryz.zeroValue82
 t127 := Tryz.underlying109
 a127 := Tryz.isAgg109
 z127 := Tryz.sizeOf109
 v127 := Tryz.zeroValue109
 t164 := Tryz.underlying132
 a164 := Tryz.isAgg132
 z164 := Tryz.sizeOf132
 v164 := Tryz.zeroValue132 }
def Ze1 : Go.Shelf.Ren := ⟨fun | 167 => 51 | 240 => 74 | 276 => 101 | n => n, fun | 0 => 0 | 4 => 4 | 5 => 5 | 9 => 9 | 20 => 20 | 37 => 22 | 70 => 77 | 72 => 79 | 75 => 81 | 80 => 86 | 164 => 132 | n => n, fun | n => n⟩
theorem Zor : Go.Proofs.Builder.Extra prog Ze1 := {
 sizeBuilder := by kernel_rfl
 liesBuilder := by kernel_rfl
 t5 := Tryz.underlying5
 a5 := Tryz.isAgg5
 z5 := Tryz.sizeOf5
 v5 := Tryz.zeroValue5
 infoByte := by kernel_rfl
 cellsByte := by kernel_rfl
 sizeByte := by kernel_rfl
 neB5 := by decide }
theorem Zo8 : Go.Proofs.Lays.n167 prog Ze1 := {
 mixed := by kernel_rfl
 f167 := Tryz.func51.trans (congrArg some (by kernel_rfl))
 f240 := Tryz.func74.trans (congrArg some (by kernel_rfl))
 f276 := Tryz.func101.trans (congrArg some (by kernel_rfl))
 t0 := Tryz.underlying0
 a0 := Tryz.isAgg0
 z0 := Tryz.sizeOf0
 v0 := Tryz.zeroValue0
 t4 := Tryz.underlying4
 a4 := Tryz.isAgg4
 z4 := Tryz.sizeOf4
 v4 := Tryz.zeroValue4
 t5 := Tryz.underlying5
 a5 := Tryz.isAgg5
 z5 := Tryz.sizeOf5
 v5 := Tryz.zeroValue5
 t9 := Tryz.underlying9
 a9 := Tryz.isAgg9
 z9 := Tryz.sizeOf9
 v9 := Tryz.zeroValue9
 t20 := Tryz.underlying20
 a20 := Tryz.isAgg20
 z20 := Tryz.sizeOf20
 v20 := Tryz.zeroValue20
 t37 := Tryz.underlying22
 a37 := Tryz.isAgg22
 z37 := Tryz.sizeOf22
 v37 := Tryz.zeroValue22
 t70 := Tryz.underlying77
 a70 := Tryz.isAgg77
 z70 := Tryz.sizeOf77
 v70 := Tryz.zeroValue77
 t72 := Tryz.underlying79
 a72 := Tryz.isAgg79
 z72 := Tryz.sizeOf79
 v72 := Tryz.zeroValue79
 t75 := Tryz.underlying81
 a75 := Tryz.isAgg81
 z75 := Tryz.sizeOf81
 v75 := Tryz.zeroValue81
 t164 := Tryz.underlying132
 a164 := Tryz.isAgg132
 z164 := Tryz.sizeOf132
 v164 := Tryz.zeroValue132 }
def Zj1 : Go.Shelf.Ren := ⟨fun | 170 => 52 | n => n, fun | 0 => 0 | 3 => 3 | 5 => 5 | 37 => 22 | 70 => 77 | 72 => 79 | n => n, fun | n => n⟩
theorem Zo9 : Go.Proofs.Lays.n170 prog Zj1 := {
 mixed := by kernel_rfl
 f170 := Tryz.func52.trans (congrArg some (by kernel_rfl))
 t0 := Tryz.underlying0
 a0 := Tryz.isAgg0
 z0 := Tryz.sizeOf0
 v0 := Tryz.zeroValue0
 t3 := Tryz.underlying3
 a3 := Tryz.isAgg3
 z3 := Tryz.sizeOf3
 v3 := Tryz.zeroValue3
 t37 := Tryz.underlying22
 a37 := Tryz.isAgg22
 z37 := Tryz.sizeOf22
 v37 := Tryz.zeroValue22
 t70 := Tryz.underlying77
 a70 := Tryz.isAgg77
 z70 := Tryz.sizeOf77
 v70 := Tryz.zeroValue77
 t72 := Tryz.underlying79
 a72 := Tryz.isAgg79
 z72 := Tryz.sizeOf79
 v72 := Tryz.zeroValue79 }
open Go.RowKit
structure Zpa where
  aC : Int
  aF : ByteArray
structure Zoj where
  fCells : List ByteArray
  fWaits : List Zpa
  ak : Bool
theorem Yx {a b : ByteArray} (h : a.data.toList = b.data.toList) : a = b := by
 cases a; cases b
 congr
 exact Array.toList_inj.1 h
theorem Zh (a : ByteArray) : a.size = a.data.toList.length := by show a.data.size = _; rw [Array.length_toList]
theorem Yd (a : ByteArray) (i j : Nat) : (a.extract i j).data.toList = (a.data.toList.drop i).take (j - i) := by
 rw [ByteArray.data_extract, Array.toList_extract, List.extract_eq_take_drop]
theorem ZB (a b : ByteArray) : (a ++ b).data.toList = a.data.toList ++ b.data.toList := by simp
theorem Zlv (a : ByteArray) (i : Nat) : a.get! i = a.data.toList.getD i 0 := by
 cases a with | mk d =>
 show d[i]! = d.toList.getD i 0;rw [getD_eq_getElem?_getD, Array.getElem?_toList]
 cases h : d[i]? <;> simp [getElem!_def, h] <;> rfl
end Go.Proofs.YtfhdmfcfcgbgeaaGreatDoor
