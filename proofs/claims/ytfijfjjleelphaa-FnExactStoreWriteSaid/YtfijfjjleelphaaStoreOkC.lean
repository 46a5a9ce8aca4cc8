/- The closure of the program's StoreOk: what was given up, counted. -/
import Derived.Test.YtfijfjjleelphaaStoreP
import Derived.BigRegion
namespace Go.Proofs.Ytfijfjjleelphaa
open Go.RowKit

/-- A pointer given up, of a row that is in use. -/
def good (refs : List Int) (t : Int) (p : PtrD) : Bool := ptrIn p t && (refs.getD p.fAt.toNat 0 != 0)

set_option maxHeartbeats 2000000 in
set_option maxRecDepth 100000 in
theorem given_any (ao : Option Addr) (len cap : Nat) (ps0 ps : List PtrD) (t : Int) (refs : List Int) (a1 : Option Addr) (c1 : Nat) (cs : Array Value) (s g m : Nat) (W w : World)
    (hlen : len ≤ 1048576) (h0 : ps0.length ≤ 1048576) (h64 : refs.length = 64) (hsg : s < g) (hgm : g < m) (hWg : W.heap.size ≤ g)
    (hb : Below W.heap.size W w) (hcs : cs[1]? = some (.slice a1 refs.length c1)) (r1 : Rd encI 1 W a1 refs.length refs) (r4 : Rd PtrD.cells 5 W ao len ps)
    (hA : w.heap[s]? = some (.cells cs 65 (0, 0))) (hM : w.heap[m]? = some (.cells #[.slice (some ⟨g, 0, none⟩) 64 64] 52 (0, 0)))
    (ho : w.ownsRow g 3 1 (.slice (some ⟨g, 0, none⟩) 64 64) 64 (cntCells ps0)) :
    Calls Try.prog 143 #[.slice ao len cap, .int .i64 t, .pointer (some ⟨s, 0, none⟩), .pointer (some ⟨m, 0, none⟩)] w fun e w' => e = .returned (.bool (ps.all (good refs t))) ∧ Below W.heap.size W w' ∧
      (ps.all (good refs t) = true → w'.heap[s]? = some (.cells cs 65 (0, 0)) ∧ w'.heap[m]? = some (.cells #[.slice (some ⟨g, 0, none⟩) 64 64] 52 (0, 0)) ∧ w'.ownsRow g 3 1 (.slice (some ⟨g, 0, none⟩) 64 64) 64 (cntCells (ps0 ++ ps))) := by
  have HA0 := Lib.hid hA
  have HM0 := Lib.hid hM
  have HO0 := Lib.hid ho
  have hps := r4.len
  have H64 := Lib.hid h64
  clear hA hM ho h64
  go_enter Try.func143, Try.ntmps143
  go_wp2
  go_loopw [11] (fun i wr => ∃ k : Nat, k ≤ len ∧ i = .int .i64 k ∧ (ps.take k).all (good refs t) = true ∧ Below W.heap.size W wr ∧ wr.heap[s]? = some (.cells cs 65 (0, 0)) ∧ wr.heap[m]? = some (.cells #[.slice (some ⟨g, 0, none⟩) 64 64] 52 (0, 0)) ∧ wr.ownsRow g 3 1 (.slice (some ⟨g, 0, none⟩) 64 64) 64 (cntCells (ps0 ++ ps.take k))) (fun i _ => len - (intOf i).toNat)
  case atStart => exact ⟨0, Nat.zero_le _, rfl, rfl, hb, HA0.out, HM0.out, by simpa using HO0.out⟩
  case round =>
    obtain ⟨k, hk, rfl, hall, hb1, hA, hM, ho⟩ := hrel
    clear hb HA0 HM0 HO0
    by_cases hlt : k < len
    · obtain ⟨b, off, p, hp, rfl, hbl, hrg⟩ := r4.at_ k (by omega)
      obtain ⟨d0, d1, d2, d3, d4⟩ := PtrD.at_ (rangeAt_below hrg hb1 hbl)
      obtain ⟨hkp, hpe⟩ := List.getElem?_eq_some_iff.1 hp
      have hsn : Hid (ps.take (k + 1) = ps.take k ++ [p]) := by show _ = _; rw [List.take_succ_eq_append_getElem hkp, hpe]
      have hfail : Hid (good refs t p = false → ps.all (good refs t) = false) := fun h => by rw [List.all_eq_false]; exact ⟨p, by rw [← hpe]; exact List.getElem_mem _, by rw [h]; decide⟩
      have hnext : Hid (good refs t p = true → (ps.take (k + 1)).all (good refs t) = true) := fun h => by rw [hsn.out, List.all_append, hall]; simp [h]
      have hgood : Hid (good refs t p = ((p.ok && (!p.hole && decide (p.fBirth ≤ t))) && (refs.getD p.fAt.toNat 0 != 0))) := rfl
      have hcj : (ps0 ++ ps.take k).length ≤ 2097152 := by rw [List.length_append, List.length_take]; omega
      have HA := Lib.hid hA
      have HM := Lib.hid hM
      have HO := Lib.hid ho
      have hsw := blk_lt hA
      have hmw := blk_lt hM
      clear hp hrg hall hA hM ho hpe hkp
      go_wp2_with fail
      have hba := hb1.alloc hb1.size (.cells #[.int .i64 p.fAt, .int .i64 p.fBirth, .int .i64 p.fSize, .int .i64 p.fSum, .int .i64 p.fLevel] 33)
      refine (implPtrOk_any p _).mono ?_
      rintro e w2 ⟨rfl, b2⟩
      have hb2 := hba.trans (b2.mono hba.size)
      have q2 := blk_below (blk_new wr (.cells #[.int .i64 p.fAt, .int .i64 p.fBirth, .int .i64 p.fSize, .int .i64 p.fSum, .int .i64 p.fLevel] 33) _ rfl) b2 (Nat.le_refl _)
      have f0 : w2.cell? ⟨wr.heap.size, 0, none⟩ = some (.int .i64 p.fAt) := blk_cell q2 0
      have f1 : w2.cell? ⟨wr.heap.size, 1, none⟩ = some (.int .i64 p.fBirth) := blk_cell q2 1
      have f2 : w2.cell? ⟨wr.heap.size, 2, none⟩ = some (.int .i64 p.fSize) := blk_cell q2 2
      have f3 : w2.cell? ⟨wr.heap.size, 3, none⟩ = some (.int .i64 p.fSum) := blk_cell q2 3
      have f4 : w2.cell? ⟨wr.heap.size, 4, none⟩ = some (.int .i64 p.fLevel) := blk_cell q2 4
      cases h1 : p.ok
      · have HR : Hid (good refs t p = false) := by show _ = _; rw [hgood.out, h1]; rfl
        go_wp2
        go_ret
        exact ⟨ret_bool (hfail.out HR.out).symm, hb2, fun h => absurd ((hfail.out HR.out).symm.trans h) (by decide)⟩
      · go_wp2_with fail
        refine (implHole_any p _).mono ?_
        rintro e w3 ⟨rfl, b3⟩
        have hb3 := hb2.trans (b3.mono hb2.size)
        have q3 := blk_below q2 b3 (Nat.le_refl _)
        clear f0 f1 f2 f3 f4
        cases h2 : p.hole
        rotate_left
        · have HR : Hid (good refs t p = false) := by show _ = _; rw [hgood.out, h1, h2]; rfl
          go_wp2
          go_ret
          exact ⟨ret_bool (hfail.out HR.out).symm, hb3, fun h => absurd ((hfail.out HR.out).symm.trans h) (by decide)⟩
        · by_cases h3 : p.fBirth ≤ t
          rotate_left
          · have HR : Hid (good refs t p = false) := by show _ = _; rw [hgood.out, h1, h2]; simp [h3]
            have f1 : w3.cell? ⟨wr.heap.size, 1, none⟩ = some (.int .i64 p.fBirth) := blk_cell q3 1
            have h3' : decide (t < p.fBirth) = true := by simp; omega
            go_wp2
            go_ret
            exact ⟨ret_bool (hfail.out HR.out).symm, hb3, fun h => absurd ((hfail.out HR.out).symm.trans h) (by decide)⟩
          · have hat := ptrIn_at (p := p) (m := t) (by simp [ptrIn, h1, h2, h3])
            obtain ⟨a, ha⟩ : ∃ a : Nat, p.fAt = (a : Int) := ⟨p.fAt.toNat, by omega⟩
            have ha1 : a < 64 := by omega
            have Ha := Lib.hid ha
            have Hat := Lib.hid hat
            clear ha hat
            have f0 : w3.cell? ⟨wr.heap.size, 0, none⟩ = some (.int .i64 (a : Int)) := by rw [← Ha.out]; exact blk_cell q3 0
            have f1 : w3.cell? ⟨wr.heap.size, 1, none⟩ = some (.int .i64 p.fBirth) := blk_cell q3 1
            have hA3 := blk_below (blk_below (blk_alloc HA.out (.cells #[.int .i64 p.fAt, .int .i64 p.fBirth, .int .i64 p.fSize, .int .i64 p.fSum, .int .i64 p.fLevel] 33)) b2 (Nat.le_refl _)) b3 (Nat.le_refl _)
            have hM3 := blk_below (blk_below (blk_alloc HM.out (.cells #[.int .i64 p.fAt, .int .i64 p.fBirth, .int .i64 p.fSize, .int .i64 p.fSum, .int .i64 p.fLevel] 33)) b2 (Nat.le_refl _)) b3 (Nat.le_refl _)
            have ho3 := owns_below (owns_below (HO.out.alloc (.cells #[.int .i64 p.fAt, .int .i64 p.fBirth, .int .i64 p.fSize, .int .i64 p.fSum, .int .i64 p.fLevel] 33)) b2 (Nat.le_refl _)) b3 (Nat.le_refl _)
            have hca : w3.cell? ⟨g, a, none⟩ = some (.int .i64 (cnt (ps0 ++ ps.take k) a : Nat)) := by rw [ho3.cellAt a (by omega)]; exact cntCells_get _ _ ha1
            have hfa := ho3.frozenAt a
            have hcl := cnt_le (ps0 ++ ps.take k) a
            obtain ⟨b1, off1, r, hx1, rfl, hbl1, hrg1⟩ := r1.at_ a (by rw [H64.out]; exact ha1)
            have g1 := (rangeAt_below hrg1 hb3 hbl1) 0 _ rfl
            simp only [Nat.mul_one, Nat.add_zero] at g1
            have e1 := Lib.hid (getD_of (d := (0 : Int)) hx1)
            have hl1 : a < refs.length := by rw [H64.out]; exact ha1
            have p1 : w3.cell? ⟨s, 1, none⟩ = some (.slice (some ⟨b1, off1, none⟩) refs.length c1) := by rw [blk_cell hA3 1]; exact hcs
            have pm : w3.cell? ⟨m, 0, none⟩ = some (.slice (some ⟨g, 0, none⟩) 64 64) := blk_cell hM3 0
            have HA3 := Lib.hid hA3
            have HM3 := Lib.hid hM3
            have HO3 := Lib.hid ho3
            clear hx1 hrg1 hA3 hM3 ho3 q2 q3 b2 b3 HA HM HO hb1 hb2 hba
            have h3' : decide (t < p.fBirth) = false := by simp; omega
            cases gr : (r == 0)
            rotate_left
            · have HR : Hid (good refs t p = false) := by
                show _ = _
                rw [hgood.out, Ha.out, Int.toNat_natCast, e1.out]
                simp only [bne, gr]; simp
              go_wp2
              go_ret
              exact ⟨ret_bool (hfail.out HR.out).symm, hb3, fun h => absurd ((hfail.out HR.out).symm.trans h) (by decide)⟩
            · have HR : Hid (good refs t p = true) := by
                show _ = _
                rw [hgood.out, Ha.out, Int.toNat_natCast, e1.out, h1, h2]
                simp only [bne, gr]; simp [h3]
              generalize hcd : cnt (ps0 ++ ps.take k) a = cn at hca hcl
              have HCD := Lib.hid hcd
              clear hcd
              go_wp2
              go_roundw
              case rel =>
                obtain ⟨ho4, _⟩ := HO3.out.stored a (.int .i64 ((cn : Int) + 1))
                refine ⟨k + 1, by omega, by go_num, hnext.out HR.out, hb3.setCell (p := ⟨g, a, none⟩) hWg _, ?_, ?_, ?_⟩
                · exact blk_set_other HA3.out (p := ⟨g, a, none⟩) (Nat.ne_of_lt hsg) _
                · exact blk_set_other HM3.out (p := ⟨g, a, none⟩) (Nat.ne_of_gt hgm) _
                · rw [hsn.out, ← List.append_assoc, ← cntCells_snoc _ p a Ha.out ha1, HCD.out]; exact ho4
              case measure => simp [intOf]; omega
    · have hk' : k = len := by omega
      subst hk'
      have htk : Hid (ps.take k = ps) := List.take_of_length_le (by omega)
      have HR := Lib.hid hall
      have HA := Lib.hid hA
      have HM := Lib.hid hM
      have HO := Lib.hid ho
      clear hall hA hM ho
      go_wp2
      go_ret
      rw [htk.out] at HR HO
      exact ⟨ret_bool HR.out.symm, hb1, fun _ => ⟨HA.out, HM.out, HO.out⟩⟩
end Go.Proofs.Ytfijfjjleelphaa
