/- A part of the proof in YtebpodlkndnepaaGreatDoorTaZ28. -/
import Derived.Shelf.Strconv.Itoa3
import Derived.Shelf.Strings.BuilderF
import Derived.Shelf.Strings.BuilderK
import Derived.Shelf.Strings.OnBuilder
import Derived.Test.YtebpodlkndnepaaGreatDoorTaZ7
/- The library at texts: laid at this dump. -/
namespace Go.Proofs.YtebpodlkndnepaaGreatDoor
set_option linter.unusedVariables false
set_option linter.unusedSimpArgs false
set_option maxHeartbeats 1000000
set_option maxRecDepth 100000
open Go.Shelf

def layS_ren : Go.Shelf.Ren := ⟨fun | 129 => 184 | 171 => 147 | 243 => 154 | 246 => 163 | 283 => 174 | 284 => 175 | 285 => 176 | 286 => 177 | 317 => 183 | 318 => 185 | 319 => 186 | 320 => 187 | 337 => 190 | 338 => 191 | n => n, fun | 0 => 0 | 2 => 2 | 3 => 3 | 4 => 4 | 5 => 5 | 9 => 9 | 20 => 20 | 37 => 110 | 46 => 169 | 51 => 186 | 53 => 177 | 171 => 176 | 173 => 180 | 212 => 196 | 213 => 197 | 232 => 204 | 233 => 205 | n => n, fun | 17 => 5 | 18 => 6 | 19 => 7 | n => n⟩
theorem layItoa : Go.Proofs.LaysM.n171 Tryz.prog layS_ren := {
  mixed := by kernel_rfl
  f129 := Tryz.func184.trans (congrArg some (by kernel_rfl))
  f171 := Tryz.func147.trans (congrArg some (by kernel_rfl))
  f243 := Tryz.func154.trans (congrArg some (by kernel_rfl))
  f246 := Tryz.func163.trans (congrArg some (by kernel_rfl))
  f283 := Tryz.func174.trans (congrArg some (by kernel_rfl))
  f284 := Tryz.func175.trans (congrArg some (by kernel_rfl))
  f285 := Tryz.func176.trans (congrArg some (by kernel_rfl))
  f286 := Tryz.func177.trans (congrArg some (by kernel_rfl))
  f317 := Tryz.func183.trans (congrArg some (by kernel_rfl))
  f318 := Tryz.func185.trans (congrArg some (by kernel_rfl))
  f319 := Tryz.func186.trans (congrArg some (by kernel_rfl))
  f320 := Tryz.func187.trans (congrArg some (by kernel_rfl))
  f337 := Tryz.func190.trans (congrArg some (by kernel_rfl))
  f338 := Tryz.func191.trans (congrArg some (by kernel_rfl))
  t0 := Tryz.underlying0
  a0 := Tryz.isAgg0
  z0 := Tryz.sizeOf0
  v0 := Tryz.zeroValue0
  t2 := Tryz.underlying2
  a2 := Tryz.isAgg2
  z2 := Tryz.sizeOf2
  v2 := Tryz.zeroValue2
  t3 := Tryz.underlying3
  a3 := Tryz.isAgg3
  z3 := Tryz.sizeOf3
  v3 := Tryz.zeroValue3
  t4 := Tryz.underlying4
  a4 := Tryz.isAgg4
  z4 := Tryz.sizeOf4
  v4 := Tryz.zeroValue4
  t5 := Tryz.underlying5
  a5 := Tryz.isAgg5
  z5 := Tryz.sizeOf5
  v5 := Tryz.zeroValue5
  t9 := Tryz.underlying9
  a9 := Tryz.isAgg9
  z9 := Tryz.sizeOf9
  v9 := Tryz.zeroValue9
  t20 := Tryz.underlying20
  a20 := Tryz.isAgg20
  z20 := Tryz.sizeOf20
  v20 := Tryz.zeroValue20
  t37 := Tryz.underlying110
  a37 := Tryz.isAgg110
  z37 := Tryz.sizeOf110
  v37 := Tryz.zeroValue110
  t46 := Tryz.underlying169
  a46 := Tryz.isAgg169
  z46 := Tryz.sizeOf169
  v46 := Tryz.zeroValue169
  t51 := Tryz.underlying186
  a51 := Tryz.isAgg186
  z51 := Tryz.sizeOf186
  v51 := Tryz.zeroValue186
  t53 := Tryz.underlying177
  a53 := Tryz.isAgg177
  z53 := Tryz.sizeOf177
  v53 := Tryz.zeroValue177
  t171 := Tryz.underlying176
  a171 := Tryz.isAgg176
  z171 := Tryz.sizeOf176
  v171 := Tryz.zeroValue176
  t173 := Tryz.underlying180
  a173 := Tryz.isAgg180
  z173 := Tryz.sizeOf180
  v173 := Tryz.zeroValue180
  t212 := Tryz.underlying196
  a212 := Tryz.isAgg196
  z212 := Tryz.sizeOf196
  v212 := Tryz.zeroValue196
  t213 := Tryz.underlying197
  a213 := Tryz.isAgg197
  z213 := Tryz.sizeOf197
  t232 := Tryz.underlying204
  a232 := Tryz.isAgg204
  z232 := Tryz.sizeOf204
  v232 := Tryz.zeroValue204
  t233 := Tryz.underlying205
  a233 := Tryz.isAgg205
  z233 := Tryz.sizeOf205
  v233 := Tryz.zeroValue205
  g17 := by kernel_rfl
  g18 := by kernel_rfl
  g19 := by kernel_rfl
  i0 := by kernel_rfl
  i2 := by kernel_rfl
  i3 := by kernel_rfl
  i4 := by kernel_rfl
  i5 := by kernel_rfl
  i9 := by kernel_rfl
  i20 := by kernel_rfl
  i37 := by kernel_rfl
  i46 := by kernel_rfl
  i51 := by kernel_rfl
  i53 := by kernel_rfl
  i171 := by kernel_rfl
  i173 := by kernel_rfl
  i212 := by kernel_rfl
  i232 := by kernel_rfl
  i233 := by kernel_rfl
  m17 := by kernel_rfl
  m18 := by kernel_rfl
  m19 := by kernel_rfl }
def layS2_ren : Go.Shelf.Ren := ⟨fun | 156 => 126 | 165 => 140 | 166 => 141 | 169 => 142 | 240 => 148 | 241 => 149 | 276 => 155 | 277 => 156 | n => n, fun | 0 => 0 | 3 => 3 | 4 => 4 | 5 => 5 | 9 => 9 | 20 => 20 | 31 => 22 | 37 => 110 | 70 => 146 | 72 => 148 | 75 => 150 | 76 => 151 | 80 => 153 | 127 => 159 | 164 => 161 | n => n, fun | n => n⟩
theorem layBX : Go.Proofs.Builder.Extra Tryz.prog layS2_ren := {
  sizeBuilder := by kernel_rfl
  liesBuilder := by kernel_rfl
  t5 := Tryz.underlying5
  a5 := Tryz.isAgg5
  z5 := Tryz.sizeOf5
  v5 := Tryz.zeroValue5
  infoByte := by kernel_rfl
  cellsByte := by kernel_rfl
  sizeByte := by kernel_rfl
  neB5 := by decide }
theorem layJoin : Go.Proofs.Lays.n156 Tryz.prog layS2_ren := {
  mixed := by kernel_rfl
  f156 := Tryz.func126.trans (congrArg some (by kernel_rfl))
  f165 := Tryz.func140.trans (congrArg some (by kernel_rfl))
  f166 := Tryz.func141.trans (congrArg some (by kernel_rfl))
  f169 := Tryz.func142.trans (congrArg some (by kernel_rfl))
  f240 := Tryz.func148.trans (congrArg some (by kernel_rfl))
  f241 := Tryz.func149.trans (congrArg some (by kernel_rfl))
  f276 := Tryz.func155.trans (congrArg some (by kernel_rfl))
  f277 := Tryz.func156.trans (congrArg some (by kernel_rfl))
  t0 := Tryz.underlying0
  a0 := Tryz.isAgg0
  z0 := Tryz.sizeOf0
  v0 := Tryz.zeroValue0
  t3 := Tryz.underlying3
  a3 := Tryz.isAgg3
  z3 := Tryz.sizeOf3
  v3 := Tryz.zeroValue3
  t4 := Tryz.underlying4
  a4 := Tryz.isAgg4
  z4 := Tryz.sizeOf4
  v4 := Tryz.zeroValue4
  t9 := Tryz.underlying9
  a9 := Tryz.isAgg9
  z9 := Tryz.sizeOf9
  v9 := Tryz.zeroValue9
  t20 := Tryz.underlying20
  a20 := Tryz.isAgg20
  z20 := Tryz.sizeOf20
  v20 := Tryz.zeroValue20
  t31 := Tryz.underlying22
  a31 := Tryz.isAgg22
  z31 := Tryz.sizeOf22
  v31 := Tryz.zeroValue22
  t37 := Tryz.underlying110
  a37 := Tryz.isAgg110
  z37 := Tryz.sizeOf110
  v37 := Tryz.zeroValue110
  t70 := Tryz.underlying146
  a70 := Tryz.isAgg146
  z70 := Tryz.sizeOf146
  v70 := Tryz.zeroValue146
  t72 := Tryz.underlying148
  a72 := Tryz.isAgg148
  z72 := Tryz.sizeOf148
  v72 := Tryz.zeroValue148
  t75 := Tryz.underlying150
  a75 := Tryz.isAgg150
  z75 := Tryz.sizeOf150
  v75 := Tryz.zeroValue150
  t76 := Tryz.underlying151
  a76 := Tryz.isAgg151
  z76 := Tryz.sizeOf151
  v76 := Tryz.zeroValue151
  t127 := Tryz.underlying159
  a127 := Tryz.isAgg159
  z127 := Tryz.sizeOf159
  v127 := Tryz.zeroValue159
  t164 := Tryz.underlying161
  a164 := Tryz.isAgg161
  z164 := Tryz.sizeOf161
  v164 := Tryz.zeroValue161 }
end Go.Proofs.YtebpodlkndnepaaGreatDoor

/- The laws' helpers over waiting writes. -/
namespace Go.Proofs.YtebpodlkndnepaaGreatDoor
set_option linter.unusedVariables false
set_option linter.unusedSimpArgs false
set_option maxHeartbeats 1000000
set_option maxRecDepth 100000
open Go.RowKit

structure WaitD where
  fAt : Int
  fText : ByteArray
def WaitD.cells (x : WaitD) : List Value := [.int .i64 x.fAt, .string x.fText]
theorem WaitD.cells_len (x : WaitD) : x.cells.length = 2 := rfl
theorem WaitD.at_ {w : World} {b o : Nat} {x : WaitD} (h : w.rangeAt b o x.cells) :
    w.cell? ⟨b, o, none⟩ = some (.int .i64 x.fAt) ∧ w.cell? ⟨b, o + 1, none⟩ = some (.string x.fText) :=
  ⟨h 0 _ rfl, h 1 _ rfl⟩

def WaitD.bulk (x : WaitD) : Nat := x.fText.size
end Go.Proofs.YtebpodlkndnepaaGreatDoor

/- The laws' helpers over disks. -/
namespace Go.Proofs.YtebpodlkndnepaaGreatDoor
set_option linter.unusedVariables false
set_option linter.unusedSimpArgs false
set_option maxHeartbeats 1000000
set_option maxRecDepth 100000
open Go.RowKit

structure DiskD where
  fCells : List ByteArray
  fWaits : List WaitD
  fGone : Bool
def DiskD.Reads (w : World) (v : Value) (x : DiskD) : Prop := ∃ (a0 : Option Addr) (c0 : Nat) (a1 : Option Addr) (c1 : Nat), v = .agg #[.slice a0 x.fCells.length c0, .slice a1 x.fWaits.length c1, .bool x.fGone] ∧ Rd encS 1 w a0 x.fCells.length x.fCells ∧ Rd WaitD.cells 2 w a1 x.fWaits.length x.fWaits
theorem DiskD.Reads.below {w w' : World} {v : Value} {x : DiskD} (h : DiskD.Reads w v x) (hb : Below w.heap.size w w') : DiskD.Reads w' v x := by
  obtain ⟨a0, c0, a1, c1, rfl, r0, r1⟩ := h
  exact ⟨a0, c0, a1, c1, rfl, r0.below hb, r1.below hb⟩
def DiskD.bulk (x : DiskD) : Nat := (x.fCells.length + tot ByteArray.size x.fCells) + (x.fWaits.length + tot WaitD.bulk x.fWaits)
structure DiskD.Small (x : DiskD) : Prop where
  s0_0 : x.fCells.length ≤ 9223372036854775807
  s0_1 : (∀ e ∈ x.fCells, e.size ≤ 9223372036854775807)
  s1_0 : x.fWaits.length ≤ 9223372036854775807
  s1_1 : (∀ e ∈ x.fWaits, e.fText.size ≤ 9223372036854775807)
structure DiskD.Fit (x : DiskD) : Prop where
  f0 : x.fCells.length ≤ 1048576
  f1 : x.fWaits.length ≤ 1048576
theorem DiskD.fit {x : DiskD} (h : x.bulk ≤ 1048576) : x.Fit := by
  unfold DiskD.bulk at h
  exact ⟨by omega, by omega⟩

end Go.Proofs.YtebpodlkndnepaaGreatDoor

/- Disks and columns: plain. -/
namespace Go.Proofs.YtebpodlkndnepaaGreatDoor
set_option linter.unusedVariables false
set_option linter.unusedSimpArgs false
set_option maxHeartbeats 1000000
set_option maxRecDepth 100000
open Go.RowKit
theorem ba_ext {a b : ByteArray} (h : a.data.toList = b.data.toList) : a = b := by
  cases a; cases b
  congr
  exact Array.toList_inj.1 h
theorem size_list (a : ByteArray) : a.size = a.data.toList.length := by show a.data.size = _; rw [Array.length_toList]
theorem list_extract (a : ByteArray) (i j : Nat) : (a.extract i j).data.toList = (a.data.toList.drop i).take (j - i) := by
  rw [ByteArray.data_extract, Array.toList_extract, List.extract_eq_take_drop]
theorem list_append (a b : ByteArray) : (a ++ b).data.toList = a.data.toList ++ b.data.toList := by simp
theorem get_list (a : ByteArray) (i : Nat) : a.get! i = a.data.toList.getD i 0 := by
  cases a with | mk d =>
  show d[i]! = d.toList.getD i 0
  rw [List.getD_eq_getElem?_getD, Array.getElem?_toList]
  cases h : d[i]? <;> simp [getElem!_def, h] <;> rfl
end Go.Proofs.YtebpodlkndnepaaGreatDoor
