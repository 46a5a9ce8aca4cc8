/- A part of the proof in YtigjfacaofgjjaaGreatDoorWrZ33. -/
import Derived.Shelf.Strconv.Itoa3
import Derived.Shelf.Strings.BuilderF
import Derived.Shelf.Strings.BuilderK
import Derived.Shelf.Strings.OnBuilder
import Derived.Test.YtigjfacaofgjjaaGreatDoorWrZ8
namespace Go.Proofs.YtigjfacaofgjjaaGreatDoor
set_option linter.unusedVariables false
set_option linter.unusedSimpArgs false
set_option maxHeartbeats 1000000
set_option maxRecDepth 100000
open Go.Shelf
def ZkS : Go.Shelf.Ren := ⟨fun | 129 => 301 | 171 => 197 | 243 => 247 | 246 => 276 | 283 => 286 | 284 => 287 | 285 => 288 | 286 => 289 | 317 => 300 | 318 => 302 | 319 => 303 | 320 => 304 | 337 => 309 | 338 => 310 | n => n, fun | 0 => 0 | 2 => 2 | 3 => 3 | 4 => 4 | 5 => 5 | 9 => 9 | 20 => 20 | 37 => 153 | 46 => 240 | 51 => 268 | 53 => 271 | 171 => 286 | 173 => 289 | 212 => 298 | 213 => 299 | 232 => 316 | 233 => 317 | n => n, fun | 17 => 1 | 18 => 6 | 19 => 7 | n => n⟩
theorem Zmn : Go.Proofs.LaysM.n171 Tryz.prog ZkS := {
  mixed := by kernel_rfl
  f129 := Tryz.func301.trans (congrArg some (by kernel_rfl))
  f171 := Tryz.func197.trans (congrArg some (by kernel_rfl))
  f243 := Tryz.func247.trans (congrArg some (by kernel_rfl))
  f246 := Tryz.func276.trans (congrArg some (by kernel_rfl))
  f283 := Tryz.func286.trans (congrArg some (by kernel_rfl))
  f284 := Tryz.func287.trans (congrArg some (by kernel_rfl))
  f285 := Tryz.func288.trans (congrArg some (by kernel_rfl))
  f286 := Tryz.func289.trans (congrArg some (by kernel_rfl))
  f317 := Tryz.func300.trans (congrArg some (by kernel_rfl))
  f318 := Tryz.func302.trans (congrArg some (by kernel_rfl))
  f319 := Tryz.func303.trans (congrArg some (by kernel_rfl))
  f320 := Tryz.func304.trans (congrArg some (by kernel_rfl))
  f337 := Tryz.func309.trans (congrArg some (by kernel_rfl))
  f338 := Tryz.func310.trans (congrArg some (by kernel_rfl))
  t0 := Tryz.underlying0
  a0 := Tryz.isAgg0
  z0 := Tryz.sizeOf0
  v0 := Tryz.zeroValue0
  t2 := Tryz.underlying2
  a2 := Tryz.isAgg2
  z2 := Tryz.sizeOf2
  v2 := Tryz.zeroValue2
  t3 := Tryz.underlying3
  a3 := Tryz.isAgg3
  z3 := Tryz.sizeOf3
  v3 := Tryz.zeroValue3
  t4 := Tryz.underlying4
  a4 := Tryz.isAgg4
  z4 := Tryz.sizeOf4
  v4 := Tryz.zeroValue4
  t5 := Tryz.underlying5
  a5 := Tryz.isAgg5
  z5 := Tryz.sizeOf5
  v5 := Tryz.zeroValue5
  t9 := Tryz.underlying9
  a9 := Tryz.isAgg9
  z9 := Tryz.sizeOf9
  v9 := Tryz.zeroValue9
  t20 := Tryz.underlying20
  a20 := Tryz.isAgg20
  z20 := Tryz.sizeOf20
  v20 := Tryz.zeroValue20
  t37 := Tryz.underlying153
  a37 := Tryz.isAgg153
  z37 := Tryz.sizeOf153
  v37 := Tryz.zeroValue153
  t46 := Tryz.underlying240
  a46 := Tryz.isAgg240
  z46 := Tryz.sizeOf240
  v46 := Tryz.zeroValue240
  t51 := Tryz.underlying268
  a51 := Tryz.isAgg268
  z51 := Tryz.sizeOf268
  v51 := Tryz.zeroValue268
  t53 := Tryz.underlying271
  a53 := Tryz.isAgg271
  z53 := Tryz.sizeOf271
  v53 := Tryz.zeroValue271
  t171 := Tryz.underlying286
  a171 := Tryz.isAgg286
  z171 := Tryz.sizeOf286
  v171 := Tryz.zeroValue286
  t173 := Tryz.underlying289
  a173 := Tryz.isAgg289
  z173 := Tryz.sizeOf289
  v173 := Tryz.zeroValue289
  t212 := Tryz.underlying298
  a212 := Tryz.isAgg298
  z212 := Tryz.sizeOf298
  v212 := Tryz.zeroValue298
  t213 := Tryz.underlying299
  a213 := Tryz.isAgg299
  z213 := Tryz.sizeOf299
  t232 := Tryz.underlying316
  a232 := Tryz.isAgg316
  z232 := Tryz.sizeOf316
  v232 := Tryz.zeroValue316
  t233 := Tryz.underlying317
  a233 := Tryz.isAgg317
  z233 := Tryz.sizeOf317
  v233 := Tryz.zeroValue317
  g17 := by kernel_rfl
  g18 := by kernel_rfl
  g19 := by kernel_rfl
  i0 := by kernel_rfl
  i2 := by kernel_rfl
  i3 := by kernel_rfl
  i4 := by kernel_rfl
  i5 := by kernel_rfl
  i9 := by kernel_rfl
  i20 := by kernel_rfl
  i37 := by kernel_rfl
  i46 := by kernel_rfl
  i51 := by kernel_rfl
  i53 := by kernel_rfl
  i171 := by kernel_rfl
  i173 := by kernel_rfl
  i212 := by kernel_rfl
  i232 := by kernel_rfl
  i233 := by kernel_rfl
  m17 := by kernel_rfl
  m18 := by kernel_rfl
  m19 := by kernel_rfl }
def VH : Go.Shelf.Ren := ⟨fun | 156 => 163 | 165 => 211 | 166 => 126 | 169 => 127 | 240 => 178 | 241 => 254 | 276 => 228 | 277 => 280 | n => n, fun | 0 => 0 | 3 => 3 | 4 => 4 | 5 => 5 | 9 => 9 | 20 => 20 | 31 => 22 | 37 => 153 | 70 => 164 | 72 => 166 | 75 => 171 | 76 => 172 | 80 => 174 | 127 => 210 | 164 => 243 | n => n, fun | n => n⟩
theorem Zi1 : Go.Proofs.Builder.Extra Tryz.prog VH := {
  sizeBuilder := by kernel_rfl
  liesBuilder := by kernel_rfl
  t5 := Tryz.underlying5
  a5 := Tryz.isAgg5
  z5 := Tryz.sizeOf5
  v5 := Tryz.zeroValue5
  infoByte := by kernel_rfl
  cellsByte := by kernel_rfl
  sizeByte := by kernel_rfl
  neB5 := by decide }
theorem Zn7 : Go.Proofs.Lays.n166 Tryz.prog VH := {
  mixed := by kernel_rfl
  f166 := Tryz.func126.trans (congrArg some (by kernel_rfl))
  f240 := Tryz.func178.trans (congrArg some (by kernel_rfl))
  f276 := Tryz.func228.trans (congrArg some (by kernel_rfl))
  t0 := Tryz.underlying0
  a0 := Tryz.isAgg0
  z0 := Tryz.sizeOf0
  v0 := Tryz.zeroValue0
  t3 := Tryz.underlying3
  a3 := Tryz.isAgg3
  z3 := Tryz.sizeOf3
  v3 := Tryz.zeroValue3
  t4 := Tryz.underlying4
  a4 := Tryz.isAgg4
  z4 := Tryz.sizeOf4
  v4 := Tryz.zeroValue4
  t9 := Tryz.underlying9
  a9 := Tryz.isAgg9
  z9 := Tryz.sizeOf9
  v9 := Tryz.zeroValue9
  t20 := Tryz.underlying20
  a20 := Tryz.isAgg20
  z20 := Tryz.sizeOf20
  v20 := Tryz.zeroValue20
  t37 := Tryz.underlying153
  a37 := Tryz.isAgg153
  z37 := Tryz.sizeOf153
  v37 := Tryz.zeroValue153
  t70 := Tryz.underlying164
  a70 := Tryz.isAgg164
  z70 := Tryz.sizeOf164
  v70 := Tryz.zeroValue164
  t72 := Tryz.underlying166
  a72 := Tryz.isAgg166
  z72 := Tryz.sizeOf166
  v72 := Tryz.zeroValue166
  t75 := Tryz.underlying171
  a75 := Tryz.isAgg171
  z75 := Tryz.sizeOf171
  v75 := Tryz.zeroValue171
  t164 := Tryz.underlying243
  a164 := Tryz.isAgg243
  z164 := Tryz.sizeOf243
  v164 := Tryz.zeroValue243 }
theorem Zn8 : Go.Proofs.Lays.n169 Tryz.prog VH := {
  mixed := by kernel_rfl
  f169 := Tryz.func127.trans (congrArg some (by kernel_rfl))
  t0 := Tryz.underlying0
  a0 := Tryz.isAgg0
  z0 := Tryz.sizeOf0
  v0 := Tryz.zeroValue0
  t3 := Tryz.underlying3
  a3 := Tryz.isAgg3
  z3 := Tryz.sizeOf3
  v3 := Tryz.zeroValue3
  t9 := Tryz.underlying9
  a9 := Tryz.isAgg9
  z9 := Tryz.sizeOf9
  v9 := Tryz.zeroValue9
  t37 := Tryz.underlying153
  a37 := Tryz.isAgg153
  z37 := Tryz.sizeOf153
  v37 := Tryz.zeroValue153
  t70 := Tryz.underlying164
  a70 := Tryz.isAgg164
  z70 := Tryz.sizeOf164
  v70 := Tryz.zeroValue164
  t72 := Tryz.underlying166
  a72 := Tryz.isAgg166
  z72 := Tryz.sizeOf166
  v72 := Tryz.zeroValue166
  t127 := Tryz.underlying210
  a127 := Tryz.isAgg210
  z127 := Tryz.sizeOf210
  v127 := Tryz.zeroValue210 }
theorem Zi2 : Go.Proofs.Lays.n156 Tryz.prog VH := {
  mixed := by kernel_rfl
  f156 := Tryz.func163.trans (congrArg some (by kernel_rfl))
  f165 := Tryz.func211.trans (congrArg some (by kernel_rfl))
  f166 := Tryz.func126.trans (congrArg some (by kernel_rfl))
  f169 := Tryz.func127.trans (congrArg some (by kernel_rfl))
  f240 := Tryz.func178.trans (congrArg some (by kernel_rfl))
  f241 := Tryz.func254.trans (congrArg some (by kernel_rfl))
  f276 := Tryz.func228.trans (congrArg some (by kernel_rfl))
  f277 := Tryz.func280.trans (congrArg some (by kernel_rfl))
  t0 := Tryz.underlying0
  a0 := Tryz.isAgg0
  z0 := Tryz.sizeOf0
  v0 := Tryz.zeroValue0
  t3 := Tryz.underlying3
  a3 := Tryz.isAgg3
  z3 := Tryz.sizeOf3
  v3 := Tryz.zeroValue3
  t4 := Tryz.underlying4
  a4 := Tryz.isAgg4
  z4 := Tryz.sizeOf4
  v4 := Tryz.zeroValue4
  t9 := Tryz.underlying9
  a9 := Tryz.isAgg9
  z9 := Tryz.sizeOf9
  v9 := Tryz.zeroValue9
  t20 := Tryz.underlying20
  a20 := Tryz.isAgg20
  z20 := Tryz.sizeOf20
  v20 := Tryz.zeroValue20
  t31 := Tryz.underlying22
  a31 := Tryz.isAgg22
  z31 := Tryz.sizeOf22
  v31 := Tryz.zeroValue22
  t37 := Tryz.underlying153
  a37 := Tryz.isAgg153
  z37 := Tryz.sizeOf153
  v37 := Tryz.zeroValue153
  t70 := Tryz.underlying164
  a70 := Tryz.isAgg164
  z70 := Tryz.sizeOf164
  v70 := Tryz.zeroValue164
  t72 := Tryz.underlying166
  a72 := Tryz.isAgg166
  z72 := Tryz.sizeOf166
  v72 := Tryz.zeroValue166
  t75 := Tryz.underlying171
  a75 := Tryz.isAgg171
  z75 := Tryz.sizeOf171
  v75 := Tryz.zeroValue171
  t76 := Tryz.underlying172
  a76 := Tryz.isAgg172
  z76 := Tryz.sizeOf172
  v76 := Tryz.zeroValue172
  t127 := Tryz.underlying210
  a127 := Tryz.isAgg210
  z127 := Tryz.sizeOf210
  v127 := Tryz.zeroValue210
  t164 := Tryz.underlying243
  a164 := Tryz.isAgg243
  z164 := Tryz.sizeOf243
  v164 := Tryz.zeroValue243 }
def Ze8 : Go.Shelf.Ren := ⟨fun | 167 => 198 | 240 => 178 | 276 => 228 | n => n, fun | 0 => 0 | 4 => 4 | 5 => 5 | 9 => 9 | 20 => 20 | 37 => 153 | 70 => 164 | 72 => 166 | 75 => 171 | 80 => 174 | 164 => 243 | n => n, fun | n => n⟩
theorem Znu : Go.Proofs.Builder.Extra Tryz.prog Ze8 := {
  sizeBuilder := by kernel_rfl
  liesBuilder := by kernel_rfl
  t5 := Tryz.underlying5
  a5 := Tryz.isAgg5
  z5 := Tryz.sizeOf5
  v5 := Tryz.zeroValue5
  infoByte := by kernel_rfl
  cellsByte := by kernel_rfl
  sizeByte := by kernel_rfl
  neB5 := by decide }
theorem Zn9 : Go.Proofs.Lays.n167 Tryz.prog Ze8 := {
  mixed := by kernel_rfl
  f167 := Tryz.func198.trans (congrArg some (by kernel_rfl))
  f240 := Tryz.func178.trans (congrArg some (by kernel_rfl))
  f276 := Tryz.func228.trans (congrArg some (by kernel_rfl))
  t0 := Tryz.underlying0
  a0 := Tryz.isAgg0
  z0 := Tryz.sizeOf0
  v0 := Tryz.zeroValue0
  t4 := Tryz.underlying4
  a4 := Tryz.isAgg4
  z4 := Tryz.sizeOf4
  v4 := Tryz.zeroValue4
  t5 := Tryz.underlying5
  a5 := Tryz.isAgg5
  z5 := Tryz.sizeOf5
  v5 := Tryz.zeroValue5
  t9 := Tryz.underlying9
  a9 := Tryz.isAgg9
  z9 := Tryz.sizeOf9
  v9 := Tryz.zeroValue9
  t20 := Tryz.underlying20
  a20 := Tryz.isAgg20
  z20 := Tryz.sizeOf20
  v20 := Tryz.zeroValue20
  t37 := Tryz.underlying153
  a37 := Tryz.isAgg153
  z37 := Tryz.sizeOf153
  v37 := Tryz.zeroValue153
  t70 := Tryz.underlying164
  a70 := Tryz.isAgg164
  z70 := Tryz.sizeOf164
  v70 := Tryz.zeroValue164
  t72 := Tryz.underlying166
  a72 := Tryz.isAgg166
  z72 := Tryz.sizeOf166
  v72 := Tryz.zeroValue166
  t75 := Tryz.underlying171
  a75 := Tryz.isAgg171
  z75 := Tryz.sizeOf171
  v75 := Tryz.zeroValue171
  t164 := Tryz.underlying243
  a164 := Tryz.isAgg243
  z164 := Tryz.sizeOf243
  v164 := Tryz.zeroValue243 }
def ZjB : Go.Shelf.Ren := ⟨fun | 170 => 199 | n => n, fun | 0 => 0 | 3 => 3 | 5 => 5 | 37 => 153 | 70 => 164 | 72 => 166 | n => n, fun | n => n⟩
theorem Zoa : Go.Proofs.Lays.n170 Tryz.prog ZjB := {
  mixed := by kernel_rfl
  f170 := Tryz.func199.trans (congrArg some (by kernel_rfl))
  t0 := Tryz.underlying0
  a0 := Tryz.isAgg0
  z0 := Tryz.sizeOf0
  v0 := Tryz.zeroValue0
  t3 := Tryz.underlying3
  a3 := Tryz.isAgg3
  z3 := Tryz.sizeOf3
  v3 := Tryz.zeroValue3
  t37 := Tryz.underlying153
  a37 := Tryz.isAgg153
  z37 := Tryz.sizeOf153
  v37 := Tryz.zeroValue153
  t70 := Tryz.underlying164
  a70 := Tryz.isAgg164
  z70 := Tryz.sizeOf164
  v70 := Tryz.zeroValue164
  t72 := Tryz.underlying166
  a72 := Tryz.isAgg166
  z72 := Tryz.sizeOf166
  v72 := Tryz.zeroValue166 }
open Go.RowKit
structure JE where
  fAt : Int
  fText : ByteArray
def JE.cells (x : JE) : List Value := [.int .i64 x.fAt, .string x.fText]
theorem JE.cells_len (x : JE) : x.cells.length = 2 := rfl
theorem JE.at_ {w : World} {b o : Nat} {x : JE} (h : w.rangeAt b o x.cells) :
    w.cell? ⟨b, o, none⟩ = some (.int .i64 x.fAt) ∧ w.cell? ⟨b, o + 1, none⟩ = some (.string x.fText) :=
  ⟨h 0 _ rfl, h 1 _ rfl⟩
def JE.bulk (x : JE) : Nat := x.fText.size
open Go.RowKit
structure YJ where
  fCells : List ByteArray
  fWaits : List JE
  fGone : Bool
def YJ.Reads (w : World) (v : Value) (x : YJ) : Prop := ∃ (a0 : Option Addr) (c0 : Nat) (a1 : Option Addr) (c1 : Nat), v = .agg #[.slice a0 x.fCells.length c0, .slice a1 x.fWaits.length c1, .bool x.fGone] ∧ Rd Zl 1 w a0 x.fCells.length x.fCells ∧ Rd JE.cells 2 w a1 x.fWaits.length x.fWaits
theorem YJ.Reads.below {w w' : World} {v : Value} {x : YJ} (h : YJ.Reads w v x) (hb : Below w.heap.size w w') : YJ.Reads w' v x := by
  obtain ⟨a0, c0, a1, c1, rfl, r0, r1⟩ := h;exact ⟨a0, c0, a1, c1, rfl, r0.below hb, r1.below hb⟩
def YJ.bulk (x : YJ) : Nat := (x.fCells.length + tot ByteArray.size x.fCells) + (x.fWaits.length + tot JE.bulk x.fWaits)
structure YJ.Small (x : YJ) : Prop where
  s0_0 : x.fCells.length ≤ 9223372036854775807
  s0_1 : (∀ e ∈ x.fCells, e.size ≤ 9223372036854775807)
  s1_0 : x.fWaits.length ≤ 9223372036854775807
  s1_1 : (∀ e ∈ x.fWaits, e.fText.size ≤ 9223372036854775807)
structure YJ.Fit (x : YJ) : Prop where
  f0 : x.fCells.length ≤ 1048576
  f1 : x.fWaits.length ≤ 1048576
theorem YJ.fit {x : YJ} (h : x.bulk ≤ 1048576) : x.Fit := by
  unfold YJ.bulk at h;exact ⟨by omega, by omega⟩
open Go.RowKit
theorem Yn {a b : ByteArray} (h : a.data.toList = b.data.toList) : a = b := by
  cases a; cases b
  congr
  exact Array.toList_inj.1 h
theorem Zj (a : ByteArray) : a.size = a.data.toList.length := by show a.data.size = _; rw [Array.length_toList]
theorem Z1 (a : ByteArray) (i j : Nat) : (a.extract i j).data.toList = (a.data.toList.drop i).take (j - i) := by
  rw [ByteArray.data_extract, Array.toList_extract, List.extract_eq_take_drop]
theorem ZO (a b : ByteArray) : (a ++ b).data.toList = a.data.toList ++ b.data.toList := by simp
theorem ZgP (a : ByteArray) (i : Nat) : a.get! i = a.data.toList.getD i 0 := by
  cases a with | mk d =>
  show d[i]! = d.toList.getD i 0;rw [List.getD_eq_getElem?_getD, Array.getElem?_toList]
  cases h : d[i]? <;> simp [getElem!_def, h] <;> rfl
def J7 (n : Nat) : Nat := (n + 1) / 2
def ZeK (a b : List UInt8) (n : Nat) : List UInt8 := (List.range n).map fun i => a.getD i 0 ^^^ b.getD i 0
def ZjC (a b : ByteArray) (n : Nat) : ByteArray := ⟨(ZeK a.data.toList b.data.toList n).toArray⟩
theorem ZbL (a b : ByteArray) (n : Nat) : (ZjC a b n).data.toList = ZeK a.data.toList b.data.toList n := rfl
theorem Zdt (a b : List UInt8) (n : Nat) : (ZeK a b n).length = n := by simp [ZeK]
theorem ZjD (a b : ByteArray) (n : Nat) : (ZjC a b n).size = n := by rw [Zj, ZbL, Zdt]
theorem ZkT (x y : UInt8) : (x ^^^ y) ^^^ y = x := by
  rw [UInt8.xor_assoc, UInt8.xor_self, UInt8.xor_zero]
theorem ZgQ (a b : List UInt8) (n i : Nat) (hi : i < n) : (ZeK a b n).getD i 0 = a.getD i 0 ^^^ b.getD i 0 := by
  simp [ZeK, List.getD, hi]
theorem Zh5 (a b : List UInt8) (n m : Nat) (hb : b.length = m) (hm : m ≤ n) : (ZeK (ZeK a b n) a n).take m = b := by
  apply List.ext_getElem
  · rw [List.length_take, Zdt, hb]; omega
  · intro i h1 h2
    have hi : i < n := by rw [hb] at h2; omega
    have : (ZeK (ZeK a b n) a n).getD i 0 = b.getD i 0 := by
      rw [ZgQ _ _ _ _ hi, ZgQ _ _ _ _ hi, UInt8.xor_comm (a.getD i 0), ZkT]
    rw [List.getElem_take]
    simpa [List.getD, hi, h2, Zdt] using this
def Zh6 (t : ByteArray) : ByteArray := t.extract 0 (J7 t.size)
def ZjE (t : ByteArray) : ByteArray := t.extract (J7 t.size) t.size
def Zmo (t : ByteArray) : ByteArray := ZjC (Zh6 t) (ZjE t) (J7 t.size)
theorem JU (n : Nat) (h : 1 ≤ n) : J7 n ≤ n ∧ n - J7 n ≤ J7 n := by unfold J7; omega
theorem ZjF (t : ByteArray) (h : 1 ≤ t.size) : (Zh6 t).size = J7 t.size := by
  have := JU t.size h;rw [Zj]; unfold Zh6; rw [Z1, List.drop_zero, List.length_take, ← Zj]; omega
theorem ZjG (t : ByteArray) (h : 1 ≤ t.size) : (ZjE t).size = t.size - J7 t.size := by
  have := JU t.size h;rw [Zj]; unfold ZjE; rw [Z1, List.length_take, List.length_drop, ← Zj]; omega
theorem ZjH (t : ByteArray) : (Zmo t).size = J7 t.size := ZjD _ _ _
theorem ZkU (t : ByteArray) (h : 1 ≤ t.size) : Zh6 t ++ ZjE t = t := by
  have := JU t.size h
  apply Yn
  rw [ZO];unfold Zh6 ZjE;rw [Z1, Z1, List.drop_zero, Nat.sub_zero, List.take_of_length_le (l := List.drop _ _) (by rw [List.length_drop, ← Zj]; omega), List.take_append_drop]
def Zni (c0 c1 c2 : ByteArray) (size : Nat) (lost : Int) : Option ByteArray :=
  if lost = -1 ∧ c0.size = J7 size ∧ c1.size = size - J7 size then some (c0 ++ c1)
  else if lost = 0 ∧ c1.size = size - J7 size ∧ c2.size = J7 size then some (ZjC c2 c1 (J7 size) ++ c1)
  else if lost = 1 ∧ c0.size = J7 size ∧ c2.size = J7 size then some (c0 ++ (ZjC c2 c0 (J7 size)).extract 0 (size - J7 size))
  else none
theorem join_one (t : ByteArray) (h : 1 ≤ t.size) (c1 : ByteArray) : Zni (Zh6 t) c1 (Zmo t) t.size 1 = some t := by
  have hb := JU t.size h;unfold Zni;rw [if_neg (by omega), if_neg (by omega), if_pos ⟨rfl, ZjF t h, ZjH t⟩];have e : (ZjC (Zmo t) (Zh6 t) (J7 t.size)).extract 0 (t.size - J7 t.size) = ZjE t := by
    apply Yn
    rw [Z1, ZbL, List.drop_zero, Nat.sub_zero];unfold Zmo;rw [ZbL];exact Zh5 _ _ _ _ (by rw [← Zj, ZjG t h]) hb.2
  rw [e, ZkU t h]
def Znj : List JE → Nat → Option ByteArray
  | [], _ => none
  | w :: ws, n => match Znj ws n with
    | some t => some t
    | none => if w.fAt = (n : Int) then some w.fText else none
def YJ.look (d : YJ) (n : Nat) : ByteArray := (Znj d.fWaits n).getD (d.fCells.getD n ByteArray.empty)
end Go.Proofs.YtigjfacaofgjjaaGreatDoor
