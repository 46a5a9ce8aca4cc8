/- A store that came in as a law's argument, read. -/
import Derived.Test.YtfijfjjleelphaaRead
import Derived.Test.YtfijfjjleelphaaStoreT
namespace Go.Proofs.Ytfijfjjleelphaa
open Go.ChangeShapes Go.WideShapes Go.ChangeAt Go.RowKit Go.Deep

instance : Inhabited PtrD := ⟨⟨0, 0, 0, 0, 0⟩⟩
theorem Try.cellsPtr : Try.prog.cellsOf 78 = 5 := by kernel_rfl
theorem Try.cellsPtrS : Try.prog.cellsOf 58 = 1 := by kernel_rfl
theorem Try.cellsStringS : Try.prog.cellsOf 41 = 1 := by kernel_rfl
theorem Try.cellsIntS : Try.prog.cellsOf 52 = 1 := by kernel_rfl
theorem Try.cellsSpace : Try.prog.cellsOf 57 = 2 := by kernel_rfl
theorem Try.cellsStore : Try.prog.cellsOf 60 = 8 := by kernel_rfl
section
variable {H : Type} {enc : TypeId × Value → H} {w : World} {spare : Nat → Bool} {held : Bool}
theorem PtrD.read (n : Nat) (cs : List Value) (y : DataW H × List MemPlace) (h : DataW.trod enc Try.prog w 0 spare held n 78 cs = some y) : ∃ a : PtrD, cs = a.cells ∧ True := by
  obtain ⟨c0, c1, c2, c3, c4, rfl⟩ := list5 (trod_len Try.underlying78 h Try.cellsPtr)
  obtain ⟨a0, rfl, _⟩ := fld_int Try.underlying78 h 0 _ rfl Try.cellsInt Try.underlying3 rfl
  obtain ⟨a1, rfl, _⟩ := fld_int Try.underlying78 h 1 _ rfl Try.cellsInt Try.underlying3 rfl
  obtain ⟨a2, rfl, _⟩ := fld_int Try.underlying78 h 2 _ rfl Try.cellsInt Try.underlying3 rfl
  obtain ⟨a3, rfl, _⟩ := fld_int Try.underlying78 h 3 _ rfl Try.cellsInt Try.underlying3 rfl
  obtain ⟨a4, rfl, _⟩ := fld_int Try.underlying78 h 4 _ rfl Try.cellsInt Try.underlying3 rfl
  exact ⟨⟨a0, a1, a2, a3, a4⟩, rfl, trivial⟩
theorem read_int (n : Nat) (cs : List Value) (y : DataW H × List MemPlace) (h : DataW.trod enc Try.prog w 0 spare held n 3 cs = some y) : ∃ a : Int, cs = encI a ∧ (-9223372036854775808 ≤ a ∧ a ≤ 9223372036854775807) := by
  obtain ⟨a, e, _, hw⟩ := DataW.trod_int Try.underlying3 h
  simp [Lit.wf, IntKind.min, IntKind.max, IntKind.signed, IntKind.bits] at hw
  exact ⟨a, e, by omega, by omega⟩
theorem read_string (n : Nat) (cs : List Value) (y : DataW H × List MemPlace) (h : DataW.trod enc Try.prog w 0 spare held n 9 cs = some y) : ∃ a : ByteArray, cs = encS a ∧ a.size ≤ 9223372036854775807 := by
  obtain ⟨a, e, _, hw⟩ := DataW.trod_string Try.underlying9 h
  exact ⟨a, e, by unfold maxLen at hw; omega⟩
theorem StoreD.read (n : Nat) (cs : List Value) (y : DataW H × List MemPlace) (h : DataW.trod enc Try.prog w 0 spare held n 60 cs = some y) : ∃ a : StoreD, StoreD.Reads w (.agg cs.toArray) a ∧ a.Small ∧ -9223372036854775808 ≤ a.fTxg := by
  obtain ⟨c0, c1, c2, c3, c4, c5, c6, c7, rfl⟩ := list8 (trod_len Try.underlying60 h Try.cellsStore)
  obtain ⟨m0, y0, h0⟩ := fld Try.underlying60 h 0 _ rfl Try.cellsStringS (cs' := [c0]) rfl
  obtain ⟨ms, ys, hs⟩ := fld Try.underlying60 h 1 _ rfl Try.cellsSpace (cs' := [c1, c2]) rfl
  obtain ⟨m1, y1, h1⟩ := fld Try.underlying57 hs 0 _ rfl Try.cellsIntS (cs' := [c1]) rfl
  obtain ⟨m2, y2, h2⟩ := fld Try.underlying57 hs 1 _ rfl Try.cellsIntS (cs' := [c2]) rfl
  obtain ⟨t, rfl, ht, _⟩ := fld_int Try.underlying60 h 2 _ rfl Try.cellsInt Try.underlying3 (c := c3) rfl
  obtain ⟨m4, y4, h4⟩ := fld Try.underlying60 h 3 _ rfl Try.cellsPtrS (cs' := [c4]) rfl
  obtain ⟨k, rfl, _⟩ := fld_int Try.underlying60 h 4 _ rfl Try.cellsInt Try.underlying3 (c := c5) rfl
  obtain ⟨m6, y6, h6⟩ := fld Try.underlying60 h 5 _ rfl Try.cellsPtrS (cs' := [c6]) rfl
  obtain ⟨b, rfl⟩ := fld_bool Try.underlying60 h 6 _ rfl Try.cellsBool Try.underlying4 (c := c7) rfl
  obtain ⟨a0, l0, k0, x0, rfl, b0, r0, q0⟩ := rd_slice (ef := encS) (size := 1) (Q := fun a => a.size ≤ 9223372036854775807) Try.underlying41 Try.cellsString (by omega) read_string h0
  obtain ⟨a1, l1, k1, x1, rfl, b1, r1, _⟩ := rd_slice (ef := encI) (size := 1) (Q := fun a => -9223372036854775808 ≤ a ∧ a ≤ 9223372036854775807) Try.underlying52 Try.cellsInt (by omega) read_int h1
  obtain ⟨a2, l2, k2, x2, rfl, b2, r2, _⟩ := rd_slice (ef := encI) (size := 1) (Q := fun a => -9223372036854775808 ≤ a ∧ a ≤ 9223372036854775807) Try.underlying52 Try.cellsInt (by omega) read_int h2
  obtain ⟨a4, l4, k4, x4, rfl, b4, r4, _⟩ := rd_slice (ef := PtrD.cells) (size := 5) (Q := fun _ => True) Try.underlying58 Try.cellsPtr (by omega) PtrD.read h4
  obtain ⟨a6, l6, k6, x6, rfl, b6, r6, _⟩ := rd_slice (ef := PtrD.cells) (size := 5) (Q := fun _ => True) Try.underlying58 Try.cellsPtr (by omega) PtrD.read h6
  unfold maxLen at b0 b1 b2 b4 b6
  obtain rfl := r0.len
  obtain rfl := r1.len
  obtain rfl := r2.len
  obtain rfl := r4.len
  obtain rfl := r6.len
  exact ⟨⟨x0, ⟨x1, x2⟩, t, x4, k, x6, b⟩, ⟨a0, k0, a1, k1, a2, k2, a4, k4, a6, k6, rfl, r0, r1, r2, r4, r6⟩, ⟨by show x0.length ≤ _; omega, q0, by show x1.length ≤ _; omega, by show x2.length ≤ _; omega, by show x4.length ≤ _; omega, by show x6.length ≤ _; omega⟩, ht⟩
end
end Go.Proofs.Ytfijfjjleelphaa
