/- SpaceOk: of the reference and of the program. -/
import Derived.Test.YtkgmilobmbeplaaOk
import Derived.Test.YtkgmilobmbeplaaSpaceT
namespace Go.Proofs.Ytkgmilobmbeplaa
open Go.RowKit

/-- A row's two numbers are as they may be. -/
def rowOk (i : Nat) (r l : Int) : Bool := inB l 0 900 && (inB r 0 l && ((r != 0 || l == 0) && (inB i 8 63 || decide (r ≤ 0))))
/-- The first k rows are. -/
def rowsOk (s : SpaceD) (k : Nat) : Bool := (List.range k).all fun i => rowOk i (s.fRefs.getD i 0) (s.fLast.getD i 0)
theorem rowsOk_succ (s : SpaceD) (k : Nat) : rowsOk s (k + 1) = (rowsOk s k && rowOk k (s.fRefs.getD k 0) (s.fLast.getD k 0)) := by
  simp [rowsOk, List.range_succ]
theorem rowsOk_le {s : SpaceD} {k m : Nat} (h : rowsOk s m = true) (hk : k < m) : rowOk k (s.fRefs.getD k 0) (s.fLast.getD k 0) = true := by
  simp only [rowsOk, List.all_eq_true] at h
  exact h k (List.mem_range.2 hk)
theorem rowsOk_bad {s : SpaceD} {k m : Nat} (hk : k < m) (h : rowOk k (s.fRefs.getD k 0) (s.fLast.getD k 0) = false) : rowsOk s m = false := by
  cases hm : rowsOk s m with
  | false => rfl
  | true => rw [rowsOk_le hm hk] at h; cases h
def SpaceD.ok (s : SpaceD) : Bool := s.fRefs.length == 64 && s.fLast.length == 64 && rowsOk s 64
theorem getD_of {α : Type} {xs : List α} {k : Nat} {x d : α} (h : xs[k]? = some x) : xs.getD k d = x := by simp [List.getD, h]

set_option maxHeartbeats 1000000 in
set_option maxRecDepth 100000 in
theorem specSpaceOk_any (v : Value) (s : SpaceD) (w : World) (hr : SpaceD.Reads w v s) (hf : s.Fit) :
    Calls Try.prog 114 #[v] w fun e w' => e = .returned (.bool s.ok) ∧ Below w.heap.size w w' := by
  obtain ⟨a0, c0, a1, c1, rfl, r0, r1⟩ := hr
  have hf0 := hf.f0
  have hf1 := hf.f1
  have hb0 : Below w.heap.size w (w.alloc (.cells #[.slice a0 s.fRefs.length c0, .slice a1 s.fLast.length c1] 65)) := (Below.refl _ _).alloc (Nat.le_refl _) _
  have hA0 := blk_new w (.cells #[.slice a0 s.fRefs.length c0, .slice a1 s.fLast.length c1] 65) _ rfl
  by_cases h0 : s.fRefs.length = 64
  rotate_left
  · have H : Hid (s.ok = false) := by show _ = _; simp [SpaceD.ok, h0]
    go_enter Try.func114, Try.ntmps114
    go_wp2
    go_ret
    exact ⟨ret_bool H.out.symm, hb0⟩
  have H0 := Lib.hid h0
  have hl0 := h0
  rw [h0] at r0 hb0 hA0 ⊢
  clear h0
  by_cases h1 : s.fLast.length = 64
  rotate_left
  · have H : Hid (s.ok = false) := by show _ = _; simp [SpaceD.ok, h1]
    go_enter Try.func114, Try.ntmps114
    go_wp2
    go_ret
    exact ⟨ret_bool H.out.symm, hb0⟩
  have H : Hid (s.ok = rowsOk s 64) := by show _ = _; simp [SpaceD.ok, hl0, h1]
  rw [h1] at r1 hb0 hA0 ⊢
  have H1 := Lib.hid h1
  clear h1 hl0 hf0 hf1 hf
  go_enter Try.func114, Try.ntmps114
  go_wp2
  go_loopw [3] (fun i wr => ∃ k : Nat, k ≤ 64 ∧ i = .int .i64 k ∧ rowsOk s k = true ∧ Below w.heap.size w wr ∧ wr.heap[w.heap.size]? = some (.cells #[.slice a0 64 c0, .slice a1 64 c1] 65 (0, 0))) (fun i _ => 64 - (intOf i).toNat)
  case atStart => exact ⟨0, by omega, rfl, rfl, hb0, hA0⟩
  case round =>
    obtain ⟨k, hk, rfl, hok, hb, hA⟩ := hrel
    have HOK := Lib.hid hok
    clear hok
    by_cases hlt : k < 64
    · obtain ⟨b, off, r, hx0, rfl, hbl, hrg⟩ := r0.at_ k (by rw [H0.out]; exact hlt)
      have d0 := (rangeAt_below hrg hb hbl) 0 _ rfl
      simp only [Nat.mul_one, Nat.add_zero] at d0
      obtain ⟨b2, off2, l, hx1, rfl, hbl2, hrg2⟩ := r1.at_ k (by rw [H1.out]; exact hlt)
      have d1 := (rangeAt_below hrg2 hb hbl2) 0 _ rfl
      simp only [Nat.mul_one, Nat.add_zero] at d1
      have hg0 : s.fRefs.getD k 0 = r := getD_of hx0
      have hg1 : s.fLast.getD k 0 = l := getD_of hx1
      have p0 : wr.cell? ⟨w.heap.size, 0, none⟩ = some (.slice (some ⟨b, off, none⟩) 64 c0) := blk_cell hA 0
      have p1 : wr.cell? ⟨w.heap.size, 1, none⟩ = some (.slice (some ⟨b2, off2, none⟩) 64 c1) := blk_cell hA 1
      have hlast : Hid (rowOk k r l = false → s.ok = false) := fun h => by rw [H.out]; exact rowsOk_bad hlt (by rw [hg0, hg1]; exact h)
      have hnext : Hid (rowOk k r l = true → rowsOk s (k + 1) = true) := fun h => by rw [rowsOk_succ, HOK.out, hg0, hg1, h]; rfl
      have HA := Lib.hid hA
      clear hx0 hx1 hg0 hg1 hrg hrg2 hA hA0 hb0
      by_cases g1 : inB l 0 900 = true
      rotate_left
      · have g1' : inB l 0 900 = false := by simpa using g1
        have HR : Hid (rowOk k r l = false) := by show _ = _; simp [rowOk, g1']
        clear g1
        go_wp2_with fail
        go_quiet ((first | (go_at_call 45; exact Calls.quiet_of_same ((l6In_any _ _ _ _).mono fun _ _ ⟨h1, h2⟩ => ⟨h1, h2.symm⟩)) | (go_at_call 59; exact Calls.quiet_of_same ((l2Row_any _ _).mono fun _ _ ⟨h1, h2⟩ => ⟨h1, h2.symm⟩))))
        go_wp2
        go_ret
        exact ⟨ret_bool (hlast.out HR.out).symm, hb.trans (below_drewN _ _ _)⟩
      have hl := inB_true g1
      by_cases g2 : inB r 0 l = true
      rotate_left
      · have g2' : inB r 0 l = false := by simpa using g2
        have HR : Hid (rowOk k r l = false) := by show _ = _; simp [rowOk, g2']
        clear g2
        go_wp2_with fail
        go_quiet ((first | (go_at_call 45; exact Calls.quiet_of_same ((l6In_any _ _ _ _).mono fun _ _ ⟨h1, h2⟩ => ⟨h1, h2.symm⟩)) | (go_at_call 59; exact Calls.quiet_of_same ((l2Row_any _ _).mono fun _ _ ⟨h1, h2⟩ => ⟨h1, h2.symm⟩))))
        go_wp2
        go_ret
        exact ⟨ret_bool (hlast.out HR.out).symm, hb.trans (below_drewN _ _ _)⟩
      have hr2 := inB_true g2
      by_cases g3 : r = 0
      · subst g3
        by_cases g4 : l = 0
        · subst g4
          cases g5 : inB (k : Int) 8 63
          · have HR : Hid (rowOk k 0 0 = true) := by show _ = _; simp [rowOk, g1, g2]
            go_wp2_with fail
            go_quiet ((first | (go_at_call 45; exact Calls.quiet_of_same ((l6In_any _ _ _ _).mono fun _ _ ⟨h1, h2⟩ => ⟨h1, h2.symm⟩)) | (go_at_call 59; exact Calls.quiet_of_same ((l2Row_any _ _).mono fun _ _ ⟨h1, h2⟩ => ⟨h1, h2.symm⟩))))
            go_wp2
            go_roundw
            case rel => exact ⟨k + 1, by omega, by go_num, hnext.out HR.out, hb.trans (below_drewN _ _ _), HA.out⟩
            case measure => simp [intOf]; omega
          · have HR : Hid (rowOk k 0 0 = true) := by show _ = _; simp [rowOk, g1, g2]
            go_wp2_with fail
            go_quiet ((first | (go_at_call 45; exact Calls.quiet_of_same ((l6In_any _ _ _ _).mono fun _ _ ⟨h1, h2⟩ => ⟨h1, h2.symm⟩)) | (go_at_call 59; exact Calls.quiet_of_same ((l2Row_any _ _).mono fun _ _ ⟨h1, h2⟩ => ⟨h1, h2.symm⟩))))
            go_wp2
            go_roundw
            case rel => exact ⟨k + 1, by omega, by go_num, hnext.out HR.out, hb.trans (below_drewN _ _ _), HA.out⟩
            case measure => simp [intOf]; omega
        · have g4' : ((l : Int) != 0) = true := by simpa using g4
          have HR : Hid (rowOk k 0 l = false) := by show _ = _; simp [rowOk, g4]
          clear g4
          go_wp2_with fail
          go_quiet ((first | (go_at_call 45; exact Calls.quiet_of_same ((l6In_any _ _ _ _).mono fun _ _ ⟨h1, h2⟩ => ⟨h1, h2.symm⟩)) | (go_at_call 59; exact Calls.quiet_of_same ((l2Row_any _ _).mono fun _ _ ⟨h1, h2⟩ => ⟨h1, h2.symm⟩))))
          go_wp2
          go_ret
          exact ⟨ret_bool (hlast.out HR.out).symm, hb.trans (below_drewN _ _ _)⟩
      · have g3' : ((r : Int) == 0) = false := by simpa using g3
        have g6 : 0 < r := by omega
        cases g5 : inB (k : Int) 8 63
        · have HR : Hid (rowOk k r l = false) := by show _ = _; simp [rowOk, g5]; omega
          clear g3
          go_wp2_with fail
          go_quiet ((first | (go_at_call 45; exact Calls.quiet_of_same ((l6In_any _ _ _ _).mono fun _ _ ⟨h1, h2⟩ => ⟨h1, h2.symm⟩)) | (go_at_call 59; exact Calls.quiet_of_same ((l2Row_any _ _).mono fun _ _ ⟨h1, h2⟩ => ⟨h1, h2.symm⟩))))
          go_wp2
          go_ret
          exact ⟨ret_bool (hlast.out HR.out).symm, hb.trans (below_drewN _ _ _)⟩
        · have HR : Hid (rowOk k r l = true) := by show _ = _; simp [rowOk, g1, g2, g5, g3]
          clear g3
          go_wp2_with fail
          go_quiet ((first | (go_at_call 45; exact Calls.quiet_of_same ((l6In_any _ _ _ _).mono fun _ _ ⟨h1, h2⟩ => ⟨h1, h2.symm⟩)) | (go_at_call 59; exact Calls.quiet_of_same ((l2Row_any _ _).mono fun _ _ ⟨h1, h2⟩ => ⟨h1, h2.symm⟩))))
          go_wp2
          go_roundw
          case rel => exact ⟨k + 1, by omega, by go_num, hnext.out HR.out, hb.trans (below_drewN _ _ _), HA.out⟩
          case measure => simp [intOf]; omega
    · have hk' : k = 64 := by omega
      subst hk'
      go_wp2
      go_ret
      exact ⟨ret_bool (by rw [H.out, HOK.out]), hb⟩
/-- The same, as the program asks it. -/
def rowOkI (i : Nat) (r l : Int) : Bool := inB r 0 900 && (inB l r 900 && ((r != 0 || l == 0) && (decide (r ≤ 0) || !decide ((i : Int) < 8))))
theorem rowOkI_eq {i : Nat} {r l : Int} (hi : i < 64 := by omega) : rowOk i r l = rowOkI i r l := by
  unfold rowOk rowOkI inB
  rw [Bool.eq_iff_iff]
  simp
  omega

set_option maxHeartbeats 1000000 in
set_option maxRecDepth 100000 in
theorem implSpaceOk_any (v : Value) (s : SpaceD) (w : World) (hr : SpaceD.Reads w v s) (hf : s.Fit) :
    Calls Try.prog 117 #[v] w fun e w' => e = .returned (.bool s.ok) ∧ Below w.heap.size w w' := by
  obtain ⟨a0, c0, a1, c1, rfl, r0, r1⟩ := hr
  have hf0 := hf.f0
  have hf1 := hf.f1
  have hb0 : Below w.heap.size w (w.alloc (.cells #[.slice a0 s.fRefs.length c0, .slice a1 s.fLast.length c1] 65)) := (Below.refl _ _).alloc (Nat.le_refl _) _
  have hA0 := blk_new w (.cells #[.slice a0 s.fRefs.length c0, .slice a1 s.fLast.length c1] 65) _ rfl
  by_cases h0 : s.fRefs.length = 64
  rotate_left
  · have H : Hid (s.ok = false) := by show _ = _; simp [SpaceD.ok, h0]
    go_enter Try.func117, Try.ntmps117
    go_wp2
    go_ret
    exact ⟨ret_bool H.out.symm, hb0⟩
  have H0 := Lib.hid h0
  have hl0 := h0
  rw [h0] at r0 hb0 hA0 ⊢
  clear h0
  by_cases h1 : s.fLast.length = 64
  rotate_left
  · have H : Hid (s.ok = false) := by show _ = _; simp [SpaceD.ok, h1]
    go_enter Try.func117, Try.ntmps117
    go_wp2
    go_ret
    exact ⟨ret_bool H.out.symm, hb0⟩
  have H : Hid (s.ok = rowsOk s 64) := by show _ = _; simp [SpaceD.ok, hl0, h1]
  rw [h1] at r1 hb0 hA0 ⊢
  have H1 := Lib.hid h1
  clear h1 hl0 hf0 hf1 hf
  go_enter Try.func117, Try.ntmps117
  go_wp2
  go_loopw [19] (fun i wr => ∃ k : Nat, k ≤ 64 ∧ i = .int .i64 k ∧ rowsOk s k = true ∧ Below w.heap.size w wr ∧ wr.heap[w.heap.size]? = some (.cells #[.slice a0 64 c0, .slice a1 64 c1] 65 (0, 0))) (fun i _ => 64 - (intOf i).toNat)
  case atStart => exact ⟨0, by omega, rfl, rfl, hb0, hA0⟩
  case round =>
    obtain ⟨k, hk, rfl, hok, hb, hA⟩ := hrel
    have HOK := Lib.hid hok
    clear hok
    by_cases hlt : k < 64
    · obtain ⟨b, off, r, hx0, rfl, hbl, hrg⟩ := r0.at_ k (by rw [H0.out]; exact hlt)
      have d0 := (rangeAt_below hrg hb hbl) 0 _ rfl
      simp only [Nat.mul_one, Nat.add_zero] at d0
      obtain ⟨b2, off2, l, hx1, rfl, hbl2, hrg2⟩ := r1.at_ k (by rw [H1.out]; exact hlt)
      have d1 := (rangeAt_below hrg2 hb hbl2) 0 _ rfl
      simp only [Nat.mul_one, Nat.add_zero] at d1
      have hg0 : s.fRefs.getD k 0 = r := getD_of hx0
      have hg1 : s.fLast.getD k 0 = l := getD_of hx1
      have p0 : wr.cell? ⟨w.heap.size, 0, none⟩ = some (.slice (some ⟨b, off, none⟩) 64 c0) := blk_cell hA 0
      have p1 : wr.cell? ⟨w.heap.size, 1, none⟩ = some (.slice (some ⟨b2, off2, none⟩) 64 c1) := blk_cell hA 1
      have hlast : Hid (rowOk k r l = false → s.ok = false) := fun h => by rw [H.out]; exact rowsOk_bad hlt (by rw [hg0, hg1]; exact h)
      have hnext : Hid (rowOk k r l = true → rowsOk s (k + 1) = true) := fun h => by rw [rowsOk_succ, HOK.out, hg0, hg1, h]; rfl
      have HA := Lib.hid hA
      clear hx0 hx1 hg0 hg1 hrg hrg2 hA hA0 hb0
      have hlast : Hid (rowOkI k r l = false → s.ok = false) := fun h => hlast.out (by rw [rowOkI_eq]; exact h)
      have hnext : Hid (rowOkI k r l = true → rowsOk s (k + 1) = true) := fun h => hnext.out (by rw [rowOkI_eq]; exact h)
      by_cases g1 : inB r 0 900 = true
      rotate_left
      · have g1' : inB r 0 900 = false := by simpa using g1
        have HR : Hid (rowOkI k r l = false) := by show _ = _; simp [rowOkI, g1']
        clear g1
        go_wp2_with (go_at_call 47; refine (within_any _ _ _ _).mono ?_; rintro e w' ⟨rfl, rfl⟩)
        go_ret
        exact ⟨ret_bool (hlast.out HR.out).symm, hb⟩
      have hr2 := inB_true g1
      by_cases g2 : inB l r 900 = true
      rotate_left
      · have g2' : inB l r 900 = false := by simpa using g2
        have HR : Hid (rowOkI k r l = false) := by show _ = _; simp [rowOkI, g2']
        clear g2
        go_wp2_with (go_at_call 47; refine (within_any _ _ _ _).mono ?_; rintro e w' ⟨rfl, rfl⟩)
        go_ret
        exact ⟨ret_bool (hlast.out HR.out).symm, hb⟩
      have hl := inB_true g2
      by_cases g3 : r = 0
      · subst g3
        by_cases g4 : l = 0
        · subst g4
          have HR : Hid (rowOkI k 0 0 = true) := by show _ = _; simp [rowOkI, g1]
          go_wp2_with (go_at_call 47; refine (within_any _ _ _ _).mono ?_; rintro e w' ⟨rfl, rfl⟩)
          go_roundw
          case rel => exact ⟨k + 1, by omega, by go_num, hnext.out HR.out, hb, HA.out⟩
          case measure => simp [intOf]; omega
        · have g4' : ((l : Int) != 0) = true := by simpa using g4
          have HR : Hid (rowOkI k 0 l = false) := by show _ = _; simp [rowOkI, g4]
          clear g4
          go_wp2_with (go_at_call 47; refine (within_any _ _ _ _).mono ?_; rintro e w' ⟨rfl, rfl⟩)
          go_ret
          exact ⟨ret_bool (hlast.out HR.out).symm, hb⟩
      · have g3' : ((r : Int) == 0) = false := by simpa using g3
        have g6 : 0 < r := by omega
        by_cases g5 : (k : Int) < 8
        · have HR : Hid (rowOkI k r l = false) := by show _ = _; simp [rowOkI, g5, g6]
          clear g3
          go_wp2_with (go_at_call 47; refine (within_any _ _ _ _).mono ?_; rintro e w' ⟨rfl, rfl⟩)
          go_ret
          exact ⟨ret_bool (hlast.out HR.out).symm, hb⟩
        · have HR : Hid (rowOkI k r l = true) := by show _ = _; simp [rowOkI, g1, g2, g5, g3]
          clear g3
          go_wp2_with (go_at_call 47; refine (within_any _ _ _ _).mono ?_; rintro e w' ⟨rfl, rfl⟩)
          go_roundw
          case rel => exact ⟨k + 1, by omega, by go_num, hnext.out HR.out, hb, HA.out⟩
          case measure => simp [intOf]; omega
    · have hk' : k = 64 := by omega
      subst hk'
      go_wp2
      go_ret
      exact ⟨ret_bool (by rw [H.out, HOK.out]), hb⟩
end Go.Proofs.Ytkgmilobmbeplaa
