/- A part of the proof in YtdlmlagcniifjaaGreatDoorFnZ32. -/
import Derived.BigQuiet
import Derived.Deep.QuietTactic
import Derived.Deep.RegionWith
import Derived.StillTailTactics
import Derived.Test.YtdlmlagcniifjaaGreatDoorRows
import Derived.Test.YtdlmlagcniifjaaGreatDoorFnZ1
namespace Go.Proofs.YtdlmlagcniifjaaGreatDoor
set_option linter.unusedVariables false
set_option linter.unusedSimpArgs false
set_option maxHeartbeats 1000000
set_option maxRecDepth 100000
open Go.RowKit
structure PtrD where
  fAt : Int
  fBirth : Int
  fSize : Int
  fSum : Int
  fLevel : Int
abbrev pL (p : PtrD) : List Value := [.int .i64 p.fAt, .int .i64 p.fBirth, .int .i64 p.fSize, .int .i64 p.fSum, .int .i64 p.fLevel]
abbrev pV (p : PtrD) : Value := .agg #[.int .i64 p.fAt, .int .i64 p.fBirth, .int .i64 p.fSize, .int .i64 p.fSum, .int .i64 p.fLevel]
def PtrD.cells (x : PtrD) : List Value := [.int .i64 x.fAt, .int .i64 x.fBirth, .int .i64 x.fSize, .int .i64 x.fSum, .int .i64 x.fLevel]
theorem PtrD.cells_len (x : PtrD) : x.cells.length = 5 := rfl
theorem PtrD.at_ {w : World} {b o : Nat} {x : PtrD} (h : w.rangeAt b o x.cells) :
    w.cell? ⟨b, o, none⟩ = some (.int .i64 x.fAt) ∧ w.cell? ⟨b, o + 1, none⟩ = some (.int .i64 x.fBirth) ∧ w.cell? ⟨b, o + 2, none⟩ = some (.int .i64 x.fSize) ∧ w.cell? ⟨b, o + 3, none⟩ = some (.int .i64 x.fSum) ∧ w.cell? ⟨b, o + 4, none⟩ = some (.int .i64 x.fLevel) :=
  ⟨h 0 _ rfl, h 1 _ rfl, h 2 _ rfl, h 3 _ rfl, h 4 _ rfl⟩
theorem toPtr_any (x : PtrD) (w : World) :
    Calls Tryz.prog 40 #[.agg #[.int .i64 x.fAt, .int .i64 x.fBirth, .int .i64 x.fSize, .int .i64 x.fSum, .int .i64 x.fLevel]] w fun e w' => e = .returned (.agg #[.int .i64 x.fAt, .int .i64 x.fBirth, .int .i64 x.fSize, .int .i64 x.fSum, .int .i64 x.fLevel]) ∧ Below w.heap.size w w' := by
  go_enter Tryz.func40, Tryz.ntmps40
  go_wp2
  refine bodyPost_ret (v := .agg #[.int .i64 x.fAt, .int .i64 x.fBirth, .int .i64 x.fSize, .int .i64 x.fSum, .int .i64 x.fLevel]) (by simp [results, Tryz.results40, go_sem]) rfl ⟨rfl, ?_⟩
  exact (((Below.refl _ _).alloc (Nat.le_refl _) _).alloc (by simp) _).alloc (by simp; omega) _
theorem eqPtr_yes (x : PtrD) (w : World) :
    Calls Tryz.prog 29 #[.agg #[.int .i64 x.fAt, .int .i64 x.fBirth, .int .i64 x.fSize, .int .i64 x.fSum, .int .i64 x.fLevel], .agg #[.int .i64 x.fAt, .int .i64 x.fBirth, .int .i64 x.fSize, .int .i64 x.fSum, .int .i64 x.fLevel]] w fun e w' => e = .returned (.bool true) ∧ Below w.heap.size w w' := by
  go_enter Tryz.func29, Tryz.ntmps29
  go_wp2
  go_ret
  exact ⟨rfl, ((Below.refl _ _).alloc (Nat.le_refl _) _).alloc (by simp) _⟩
theorem szPtrS_any (ao : Option Addr) (len cap : Nat) (l : Int) (w : World) (hl0 : 0 ≤ l) (hl1 : l ≤ 1048576) (hlen : len ≤ 9223372036854775807) :
    Calls Tryz.prog 19 #[.slice ao len cap, .int .i64 l] w fun e w' => e = .returned (.int .i64 (leftOf l len)) ∧ Below w.heap.size w w' := by
  by_cases hln : l < len
  · have H := Lib.hid (leftOf_no hln)
    go_enter Tryz.func19, Tryz.ntmps19
    go_wp2
    go_ret
    exact ⟨ret_int H.out.symm, Below.refl _ _⟩
  · have H := Lib.hid (leftOf_yes (Int.not_lt.1 hln))
    go_enter Tryz.func19, Tryz.ntmps19
    go_wp2
    go_ret
    exact ⟨ret_int H.out.symm, Below.refl _ _⟩
theorem Tryz.infoPtrS : (Tryz.prog.info? 35).map (fun i => (i.zero, i.size, i.bytes)) = some (some (.agg #[.int .i64 0, .int .i64 0, .int .i64 0, .int .i64 0, .int .i64 0]), 5, 40) := by kernel_rfl
theorem toPtrS_any (ao : Option Addr) (len cap : Nat) (xs : List PtrD) (w : World) (hlen : len ≤ 1048576) (hr : Rd PtrD.cells 5 w ao len xs) :
    Calls Tryz.prog 25 #[.slice ao len cap] w fun e w' => e = .returned (.slice (some ⟨w.heap.size, 0, none⟩) len len) ∧ w'.ownsRow w.heap.size 35 5 (.slice (some ⟨w.heap.size, 0, none⟩) len len) xs.length (xs.flatMap PtrD.cells) ∧ Below w.heap.size w w' := by
  obtain ⟨i0, hi, hz0, hz1, hz2⟩ := info_parts Tryz.infoPtrS
  go_enter Tryz.func25, Tryz.ntmps25
  go_wp2_with (refine wpList_make_full _ rfl (.tmp 6) (.tmp 6) 31 rfl w.heap.size 35 i0 _ 5 Tryz.underlying31 hi hz0 hz1 .i64 .i64 _ _ len rfl rfl rfl rfl ?b2 ?b3 ?b4 ?_)
  case b2 => rw [hz2]; omega
  case b3 => unfold maxLen; omega
  case b4 => exact Nat.le_refl _
  intro w1 hown hg
  have hb0 : Below w.heap.size w w1 := (Below.refl _ _).grown hg (Nat.le_refl _) (by simp)
  have hs1 : w.heap.size + 1 ≤ w1.heap.size := (hown.lt w.heap.size (by simp [Value.ownBlock])).2
  have hfill := Fill.start (xs := xs) (enc := PtrD.cells) hown
  clear hown
  go_wp2
  go_loopw [4] (fun i wr => ∃ k : Nat, k ≤ len ∧ i = .int .i64 k ∧ Fill PtrD.cells 5 w.heap.size 35 wr w.heap.size len xs k ∧ Below w.heap.size w wr ∧ w.heap.size + 1 ≤ wr.heap.size) (fun i _ => len - (intOf i).toNat)
  case atStart => exact ⟨0, Nat.zero_le _, rfl, hfill, hb0, hs1⟩
  case round =>
    obtain ⟨k, hk, rfl, hf, hb, hsz⟩ := hrel
    by_cases hlt : k < len
    · have hkx : k < xs.length := by rw [hr.len]; exact hlt
      obtain ⟨b, off, x, hx0, rfl, hbl, hrg⟩ := hr.at_ k hkx
      obtain ⟨c0, c1, c2, c3, c4⟩ := PtrD.at_ (rangeAt_below hrg hb hbl)
      have hx := Lib.hid hx0
      clear hx0
      go_wp2_with fail
      refine (toPtr_any x _).mono ?_
      rintro e w2 ⟨rfl, hb2⟩
      have hf2 := hf.below hb2 (Nat.le_refl _)
      have ht2 := Fill.there PtrD.cells_len hf2 hr.len hlt
      obtain ⟨hf3, hg3⟩ := Fill.step PtrD.cells_len hf2 hr.len hx.out
      go_wp2_with (refine wpList_store_mid rfl 35 (.tmp 21) (.tmp 20) rfl w.heap.size (k * 5) _ rfl rfl ?c0 ?c1 ?c2 ?_)
      case c0 => exact ht2
      case c1 => kernel_rfl
      case c2 => simp [Value.oneCell']
      go_roundw
      case rel => exact ⟨k + 1, by omega, by go_num, hf3, (hb.trans (hb2.mono hb.size)).grown hg3 (by have := hb2.size; omega) (by intro j hj; cases hj; exact Nat.le_refl _), by have h3 := hg3.size; simp only [PtrD.cells] at h3; have := hb2.size; omega⟩
      case measure => simp [intOf]; omega
    · have hk' : k = len := by omega
      subst hk'
      go_wp2
      go_ret
      exact ⟨rfl, Fill.done hf hr.len, hb⟩
theorem eqPtrS_yes (ao bo : Option Addr) (len cap cap2 : Nat) (xs : List PtrD) (w : World) (hlen : len ≤ 1048576) (hr : Rd PtrD.cells 5 w ao len xs) (hr2 : Rd PtrD.cells 5 w bo len xs) :
    Calls Tryz.prog 28 #[.slice ao len cap, .slice bo len cap2] w fun e w' => e = .returned (.bool true) ∧ Below w.heap.size w w' := by
  go_enter Tryz.func28, Tryz.ntmps28
  go_wp2
  go_loopw [5] (fun i wr => ∃ k : Nat, k ≤ len ∧ i = .int .i64 k ∧ Below w.heap.size w wr) (fun i _ => len - (intOf i).toNat)
  case atStart => exact ⟨0, Nat.zero_le _, rfl, Below.refl _ _⟩
  case round =>
    obtain ⟨k, hk, rfl, hb⟩ := hrel
    by_cases hlt : k < len
    · have hkx : k < xs.length := by rw [hr.len]; exact hlt
      obtain ⟨b, off, x, hx0, rfl, hbl, hrg⟩ := hr.at_ k hkx
      obtain ⟨c0, c1, c2, c3, c4⟩ := PtrD.at_ (rangeAt_below hrg hb hbl)
      obtain ⟨b2, off2, x2, hx2, rfl, hbl2, hrg2⟩ := hr2.at_ k hkx
      obtain rfl : x = x2 := Option.some.inj (hx0.symm.trans hx2)
      obtain ⟨d0, d1, d2, d3, d4⟩ := PtrD.at_ (rangeAt_below hrg2 hb hbl2)
      clear hx0 hx2
      go_wp2_with fail
      go_still_tail 8, (by kernel_rfl)
      change wpList _ _ _ _ _ wr.drew
      have hb1 := hb.drew
      have hsz := hb1.size
      generalize wr.drew = w1 at hb1 hsz ⊢
      go_wp2_with fail
      refine (eqPtr_yes x _).mono ?_
      rintro e w2 ⟨rfl, hb2⟩
      go_wp2
      go_roundw
      case rel => exact ⟨k + 1, by omega, by go_num, hb1.trans (hb2.mono hsz)⟩
      case measure => simp [intOf]; omega
    · go_wp2
      go_ret
      exact ⟨rfl, hb⟩
open Go.RowKit
def inB (n lo hi : Int) : Bool := decide (lo ≤ n) && decide (n ≤ hi)
theorem inB_true {n lo hi : Int} (h : inB n lo hi = true) : lo ≤ n ∧ n ≤ hi := by simpa [inB] using h
theorem inB_mk {n lo hi : Int} (h : lo ≤ n) (k : n ≤ hi) : inB n lo hi = true := by simp [inB, h, k]
theorem l6In_any (a b c : Int) (w : World) :
    Calls Tryz.prog 37 #[.int .i64 a, .int .i64 b, .int .i64 c] w fun e w' => e = .returned (.bool (inB a b c)) ∧ w = w' := by
  by_cases h1 : b ≤ a
  · have H : Hid (inB a b c = decide (a ≤ c)) := by show _ = _; simp [inB, h1]
    go_enter Tryz.func37, Tryz.ntmps37
    go_wp2
    all_goals (go_ret; exact ⟨ret_bool H.out.symm, rfl⟩)
  · have H : Hid (inB a b c = false) := by show _ = _; simp [inB, h1]
    go_enter Tryz.func37, Tryz.ntmps37
    go_wp2
    all_goals (go_ret; exact ⟨ret_bool H.out.symm, rfl⟩)
theorem within_any (a b c : Int) (w : World) :
    Calls Tryz.prog 42 #[.int .i64 a, .int .i64 b, .int .i64 c] w fun e w' => e = .returned (.bool (inB a b c)) ∧ w = w' := by
  by_cases h1 : b ≤ a
  · have H : Hid (inB a b c = decide (a ≤ c)) := by show _ = _; simp [inB, h1]
    go_enter Tryz.func42, Tryz.ntmps42
    go_wp2
    all_goals (go_ret; exact ⟨ret_bool H.out.symm, rfl⟩)
  · have H : Hid (inB a b c = false) := by show _ = _; simp [inB, h1]
    go_enter Tryz.func42, Tryz.ntmps42
    go_wp2
    all_goals (go_ret; exact ⟨ret_bool H.out.symm, rfl⟩)
theorem l2Row_any (a : Int) (w : World) :
    Calls Tryz.prog 75 #[.int .i64 a] w fun e w' => e = .returned (.bool (inB a 8 63)) ∧ w = w' := by
  go_enter Tryz.func75, Tryz.ntmps75
  go_wp2_with fail
  refine (l6In_any _ _ _ _).mono ?_
  rintro e w' ⟨rfl, rfl⟩
  go_wp2
  go_ret
  exact ⟨rfl, rfl⟩
theorem isRow_any (a : Int) (w : World) :
    Calls Tryz.prog 91 #[.int .i64 a] w fun e w' => e = .returned (.bool (inB a 8 63)) ∧ w = w' := by
  go_enter Tryz.func91, Tryz.ntmps91
  go_wp2_with fail
  refine (within_any _ _ _ _).mono ?_
  rintro e w' ⟨rfl, rfl⟩
  go_wp2
  go_ret
  exact ⟨rfl, rfl⟩
def PtrD.hole (p : PtrD) : Bool := p.fAt == 0 && p.fBirth == 0 && p.fSize == 0 && p.fSum == 0 && p.fLevel == 0
def PtrD.ok (p : PtrD) : Bool := p.hole || inB p.fAt 8 63 && inB p.fBirth 1 900 && inB p.fSize 1 128 && inB p.fSum 0 99460728 && inB p.fLevel 0 2
theorem specHole_any (p : PtrD) (w : World) :
    Calls Tryz.prog 50 #[.agg #[.int .i64 p.fAt, .int .i64 p.fBirth, .int .i64 p.fSize, .int .i64 p.fSum, .int .i64 p.fLevel]] w fun e w' => e = .returned (.bool p.hole) ∧ Below w.heap.size w w' := by
  go_enter Tryz.func50, Tryz.ntmps50
  go_wp2
  all_goals
    go_ret
    refine ⟨ret_bool ?_, (Below.refl _ _).alloc (Nat.le_refl _) _⟩
    unfold PtrD.hole
    simp [*]
theorem implHole_any (p : PtrD) (w : World) :
    Calls Tryz.prog 68 #[.agg #[.int .i64 p.fAt, .int .i64 p.fBirth, .int .i64 p.fSize, .int .i64 p.fSum, .int .i64 p.fLevel]] w fun e w' => e = .returned (.bool p.hole) ∧ Below w.heap.size w w' := by
  go_enter Tryz.func68, Tryz.ntmps68
  go_wp2
  all_goals
    go_ret
    refine ⟨ret_bool ?_, (Below.refl _ _).alloc (Nat.le_refl _) _⟩
    unfold PtrD.hole
    simp [*]
theorem specPtrOk_any (p : PtrD) (w : World) :
    Calls Tryz.prog 49 #[.agg #[.int .i64 p.fAt, .int .i64 p.fBirth, .int .i64 p.fSize, .int .i64 p.fSum, .int .i64 p.fLevel]] w fun e w' => e = .returned (.bool p.ok) ∧ Below w.heap.size w w' := by
  go_enter Tryz.func49, Tryz.ntmps49
  go_wp2_with (first | (go_at_call 50; refine (specHole_any p _).mono ?_; rintro e w1 ⟨rfl, hb1⟩; obtain ⟨hc1, _⟩ := bcell hb1) | (go_at_call 75; refine (l2Row_any _ _).mono ?_; rintro e w' ⟨rfl, rfl⟩) | (go_at_call 37; refine (l6In_any _ _ _ _).mono ?_; rintro e w' ⟨rfl, rfl⟩))
  all_goals
    go_ret
    refine ⟨ret_bool ?_, ((Below.refl _ _).alloc (Nat.le_refl _) _).trans (hb1.mono (by simp))⟩
    unfold PtrD.ok
    simp [*]
theorem implPtrOk_any (p : PtrD) (w : World) :
    Calls Tryz.prog 67 #[.agg #[.int .i64 p.fAt, .int .i64 p.fBirth, .int .i64 p.fSize, .int .i64 p.fSum, .int .i64 p.fLevel]] w fun e w' => e = .returned (.bool p.ok) ∧ Below w.heap.size w w' := by
  go_enter Tryz.func67, Tryz.ntmps67
  go_wp2_with (first | (go_at_call 68; refine (implHole_any p _).mono ?_; rintro e w1 ⟨rfl, hb1⟩; obtain ⟨hc1, _⟩ := bcell hb1) | (go_at_call 91; refine (isRow_any _ _).mono ?_; rintro e w' ⟨rfl, rfl⟩) | (go_at_call 42; refine (within_any _ _ _ _).mono ?_; rintro e w' ⟨rfl, rfl⟩))
  all_goals
    go_ret
    refine ⟨ret_bool ?_, ((Below.refl _ _).alloc (Nat.le_refl _) _).trans (hb1.mono (by simp))⟩
    unfold PtrD.ok
    simp [*]
open Go.RowKit
theorem szIntS_any (ao : Option Addr) (len cap : Nat) (l : Int) (w : World) (hl0 : 0 ≤ l) (hl1 : l ≤ 1048576) (hlen : len ≤ 9223372036854775807) :
    Calls Tryz.prog 47 #[.slice ao len cap, .int .i64 l] w fun e w' => e = .returned (.int .i64 (leftOf l len)) ∧ Below w.heap.size w w' := by
  by_cases hln : l < len
  · have H := Lib.hid (leftOf_no hln)
    go_enter Tryz.func47, Tryz.ntmps47
    go_wp2
    go_ret
    exact ⟨ret_int H.out.symm, Below.refl _ _⟩
  · have H := Lib.hid (leftOf_yes (Int.not_lt.1 hln))
    go_enter Tryz.func47, Tryz.ntmps47
    go_wp2
    go_ret
    exact ⟨ret_int H.out.symm, Below.refl _ _⟩
theorem Tryz.infoIntS : (Tryz.prog.info? 3).map (fun i => (i.zero, i.size, i.bytes)) = some (some (.int .i64 0), 1, 8) := by kernel_rfl
theorem toIntS_any (ao : Option Addr) (len cap : Nat) (xs : List Int) (w : World) (hlen : len ≤ 1048576) (hr : Rd encI 1 w ao len xs) :
    Calls Tryz.prog 54 #[.slice ao len cap] w fun e w' => e = .returned (.slice (some ⟨w.heap.size, 0, none⟩) len len) ∧ w'.ownsRow w.heap.size 3 1 (.slice (some ⟨w.heap.size, 0, none⟩) len len) xs.length (xs.flatMap encI) ∧ Below w.heap.size w w' := by
  obtain ⟨i0, hi, hz0, hz1, hz2⟩ := info_parts Tryz.infoIntS
  go_enter Tryz.func54, Tryz.ntmps54
  go_wp2_with (refine wpList_make_full _ rfl (.tmp 6) (.tmp 6) 23 rfl w.heap.size 3 i0 _ 1 Tryz.underlying23 hi hz0 hz1 .i64 .i64 _ _ len rfl rfl rfl rfl ?b2 ?b3 ?b4 ?_)
  case b2 => rw [hz2]; omega
  case b3 => unfold maxLen; omega
  case b4 => exact Nat.le_refl _
  intro w1 hown hg
  have hb0 : Below w.heap.size w w1 := (Below.refl _ _).grown hg (Nat.le_refl _) (by simp)
  have hs1 : w.heap.size + 1 ≤ w1.heap.size := (hown.lt w.heap.size (by simp [Value.ownBlock])).2
  have hfill := Fill.start (xs := xs) (enc := encI) hown
  clear hown
  go_wp2
  go_loopw [4] (fun i wr => ∃ k : Nat, k ≤ len ∧ i = .int .i64 k ∧ Fill encI 1 w.heap.size 3 wr w.heap.size len xs k ∧ Below w.heap.size w wr ∧ w.heap.size + 1 ≤ wr.heap.size) (fun i _ => len - (intOf i).toNat)
  case atStart => exact ⟨0, Nat.zero_le _, rfl, hfill, hb0, hs1⟩
  case round =>
    obtain ⟨k, hk, rfl, hf, hb, hsz⟩ := hrel
    by_cases hlt : k < len
    · have hkx : k < xs.length := by rw [hr.len]; exact hlt
      obtain ⟨b, off, x, hx0, rfl, hbl, hrg⟩ := hr.at_ k hkx
      have c0 := (rangeAt_below hrg hb hbl) 0 _ rfl; simp only [Nat.mul_one, Nat.add_zero] at c0
      have hx := Lib.hid hx0
      clear hx0
      have ht2 := Fill.there encI_len hf hr.len hlt
      obtain ⟨u0, hu0⟩ := Option.isSome_iff_exists.1 (ht2 0 (by omega)).1
      have hu1 := (ht2 0 (by omega)).2
      simp only [Nat.mul_one, Nat.add_zero] at hu0 hu1
      obtain ⟨hf3, hg3⟩ := Fill.step encI_len hf hr.len hx.out
      simp only [Nat.mul_one] at hf3 hg3
      clear ht2
      go_wp2
      go_roundw
      case rel => exact ⟨k + 1, by omega, by go_num, hf3, hb.grown hg3 (by omega) (by intro j hj; cases hj; exact Nat.le_refl _), Nat.le_trans hsz hg3.size⟩
      case measure => simp [intOf]; omega
    · have hk' : k = len := by omega
      subst hk'
      go_wp2
      go_ret
      exact ⟨rfl, Fill.done hf hr.len, hb⟩
theorem eqIntS_yes (ao bo : Option Addr) (len cap cap2 : Nat) (xs : List Int) (w : World) (hlen : len ≤ 1048576) (hr : Rd encI 1 w ao len xs) (hr2 : Rd encI 1 w bo len xs) :
    Calls Tryz.prog 55 #[.slice ao len cap, .slice bo len cap2] w fun e w' => e = .returned (.bool true) ∧ Below w.heap.size w w' := by
  go_enter Tryz.func55, Tryz.ntmps55
  go_wp2
  go_loopw [5] (fun i wr => ∃ k : Nat, k ≤ len ∧ i = .int .i64 k ∧ Below w.heap.size w wr) (fun i _ => len - (intOf i).toNat)
  case atStart => exact ⟨0, Nat.zero_le _, rfl, Below.refl _ _⟩
  case round =>
    obtain ⟨k, hk, rfl, hb⟩ := hrel
    by_cases hlt : k < len
    · have hkx : k < xs.length := by rw [hr.len]; exact hlt
      obtain ⟨b, off, x, hx0, rfl, hbl, hrg⟩ := hr.at_ k hkx
      have c0 := (rangeAt_below hrg hb hbl) 0 _ rfl; simp only [Nat.mul_one, Nat.add_zero] at c0
      obtain ⟨b2, off2, x2, hx2, rfl, hbl2, hrg2⟩ := hr2.at_ k hkx
      obtain rfl : x = x2 := Option.some.inj (hx0.symm.trans hx2)
      have d0 := (rangeAt_below hrg2 hb hbl2) 0 _ rfl; simp only [Nat.mul_one, Nat.add_zero] at d0
      clear hx0 hx2
      go_wp2_with fail
      go_quiet (fail)
      go_wp2
      go_roundw
      case rel => exact ⟨k + 1, by omega, by go_num, hb.trans (below_drewN _ _ _)⟩
      case measure => simp [intOf]; omega
    · go_wp2
      go_ret
      exact ⟨rfl, hb⟩
theorem szStringS_any (ao : Option Addr) (len cap : Nat) (xs : List ByteArray) (l : Int) (w : World) (hl0 : 0 ≤ l) (hl1 : l ≤ 1048576) (hlen : len ≤ 9223372036854775807) (hr : Rd encS 1 w ao len xs) (hs : ∀ x ∈ xs, x.size ≤ 9223372036854775807) :
    Calls Tryz.prog 17 #[.slice ao len cap, .int .i64 l] w fun e w' => e = .returned (.int .i64 (leftOf l (len + tot ByteArray.size xs))) ∧ Below w.heap.size w w' := by
  by_cases hln : l < len
  · rw [leftOf_no (by omega)]
    go_enter Tryz.func17, Tryz.ntmps17
    go_wp2
    go_ret
    exact ⟨rfl, Below.refl _ _⟩
  · go_enter Tryz.func17, Tryz.ntmps17
    go_wp2
    go_loopw [1,5] (fun l' i wr => ∃ k : Nat, k ≤ len ∧ i = .int .i64 k ∧ (len + tot ByteArray.size (xs.take k) : Nat) ≤ l ∧ l' = .int .i64 (l - (len + tot ByteArray.size (xs.take k) : Nat)) ∧ Below w.heap.size w wr) (fun _ i _ => len - (intOf i).toNat)
    case atStart => exact ⟨0, Nat.zero_le _, rfl, by simp [tot]; omega, by simp [tot], Below.refl _ _⟩
    case round =>
      obtain ⟨k, hk, rfl, hle, rfl, hb⟩ := hrel
      by_cases hlt : k < len
      · have hkx : k < xs.length := by rw [hr.len]; exact hlt
        obtain ⟨b, off, x, hx0, rfl, hbl, hrg⟩ := hr.at_ k hkx
        have c0 := (rangeAt_below hrg hb hbl) 0 _ rfl; simp only [Nat.mul_one, Nat.add_zero] at c0
        have hsk0 := hs _ (List.mem_of_getElem? hx0)
        have H1 := Lib.hid (tot_take ByteArray.size xs k hx0)
        clear hx0
        have hle2 := tot_take_le ByteArray.size xs (k + 1)
        by_cases hc : l - (len + tot ByteArray.size (xs.take k) : Nat) < (x.size : Nat)
        · go_wp2
          go_ret
          exact ⟨ret_int (by rw [leftOf_no (by have := H1.out; omega)]), hb⟩
        · go_wp2
          go_roundw
          case rel => exact ⟨k + 1, by omega, by go_num, by rw [H1.out]; omega, by rw [H1.out]; congr 1; omega, hb⟩
          case measure => simp [intOf]; omega
      · have hk' : k = len := by omega
        subst hk'
        have ht := Lib.hid (List.take_of_length_le (l := xs) (i := k) (by rw [hr.len]; exact Nat.le_refl _))
        rw [ht.out] at hle
        go_wp2
        go_ret
        rw [ht.out]
        exact ⟨ret_int (by rw [leftOf_yes hle]), hb⟩
theorem Tryz.infoStringS : (Tryz.prog.info? 9).map (fun i => (i.zero, i.size, i.bytes)) = some (some (.string ByteArray.empty), 1, 16) := by kernel_rfl
theorem toStringS_any (ao : Option Addr) (len cap : Nat) (xs : List ByteArray) (w : World) (hlen : len ≤ 1048576) (hr : Rd encS 1 w ao len xs) :
    Calls Tryz.prog 23 #[.slice ao len cap] w fun e w' => e = .returned (.slice (some ⟨w.heap.size, 0, none⟩) len len) ∧ w'.ownsRow w.heap.size 9 1 (.slice (some ⟨w.heap.size, 0, none⟩) len len) xs.length (xs.flatMap encS) ∧ Below w.heap.size w w' := by
  obtain ⟨i0, hi, hz0, hz1, hz2⟩ := info_parts Tryz.infoStringS
  go_enter Tryz.func23, Tryz.ntmps23
  go_wp2_with (refine wpList_make_full _ rfl (.tmp 6) (.tmp 6) 22 rfl w.heap.size 9 i0 _ 1 Tryz.underlying22 hi hz0 hz1 .i64 .i64 _ _ len rfl rfl rfl rfl ?b2 ?b3 ?b4 ?_)
  case b2 => rw [hz2]; omega
  case b3 => unfold maxLen; omega
  case b4 => exact Nat.le_refl _
  intro w1 hown hg
  have hb0 : Below w.heap.size w w1 := (Below.refl _ _).grown hg (Nat.le_refl _) (by simp)
  have hs1 : w.heap.size + 1 ≤ w1.heap.size := (hown.lt w.heap.size (by simp [Value.ownBlock])).2
  have hfill := Fill.start (xs := xs) (enc := encS) hown
  clear hown
  go_wp2
  go_loopw [4] (fun i wr => ∃ k : Nat, k ≤ len ∧ i = .int .i64 k ∧ Fill encS 1 w.heap.size 9 wr w.heap.size len xs k ∧ Below w.heap.size w wr ∧ w.heap.size + 1 ≤ wr.heap.size) (fun i _ => len - (intOf i).toNat)
  case atStart => exact ⟨0, Nat.zero_le _, rfl, hfill, hb0, hs1⟩
  case round =>
    obtain ⟨k, hk, rfl, hf, hb, hsz⟩ := hrel
    by_cases hlt : k < len
    · have hkx : k < xs.length := by rw [hr.len]; exact hlt
      obtain ⟨b, off, x, hx0, rfl, hbl, hrg⟩ := hr.at_ k hkx
      have c0 := (rangeAt_below hrg hb hbl) 0 _ rfl; simp only [Nat.mul_one, Nat.add_zero] at c0
      have hx := Lib.hid hx0
      clear hx0
      have ht2 := Fill.there encS_len hf hr.len hlt
      obtain ⟨u0, hu0⟩ := Option.isSome_iff_exists.1 (ht2 0 (by omega)).1
      have hu1 := (ht2 0 (by omega)).2
      simp only [Nat.mul_one, Nat.add_zero] at hu0 hu1
      obtain ⟨hf3, hg3⟩ := Fill.step encS_len hf hr.len hx.out
      simp only [Nat.mul_one] at hf3 hg3
      clear ht2
      go_wp2
      go_roundw
      case rel => exact ⟨k + 1, by omega, by go_num, hf3, hb.grown hg3 (by omega) (by intro j hj; cases hj; exact Nat.le_refl _), Nat.le_trans hsz hg3.size⟩
      case measure => simp [intOf]; omega
    · have hk' : k = len := by omega
      subst hk'
      go_wp2
      go_ret
      exact ⟨rfl, Fill.done hf hr.len, hb⟩
theorem eqStringS_yes (ao bo : Option Addr) (len cap cap2 : Nat) (xs : List ByteArray) (w : World) (hlen : len ≤ 1048576) (hr : Rd encS 1 w ao len xs) (hr2 : Rd encS 1 w bo len xs) :
    Calls Tryz.prog 26 #[.slice ao len cap, .slice bo len cap2] w fun e w' => e = .returned (.bool true) ∧ Below w.heap.size w w' := by
  go_enter Tryz.func26, Tryz.ntmps26
  go_wp2
  go_loopw [5] (fun i wr => ∃ k : Nat, k ≤ len ∧ i = .int .i64 k ∧ Below w.heap.size w wr) (fun i _ => len - (intOf i).toNat)
  case atStart => exact ⟨0, Nat.zero_le _, rfl, Below.refl _ _⟩
  case round =>
    obtain ⟨k, hk, rfl, hb⟩ := hrel
    by_cases hlt : k < len
    · have hkx : k < xs.length := by rw [hr.len]; exact hlt
      obtain ⟨b, off, x, hx0, rfl, hbl, hrg⟩ := hr.at_ k hkx
      have c0 := (rangeAt_below hrg hb hbl) 0 _ rfl; simp only [Nat.mul_one, Nat.add_zero] at c0
      obtain ⟨b2, off2, x2, hx2, rfl, hbl2, hrg2⟩ := hr2.at_ k hkx
      obtain rfl : x = x2 := Option.some.inj (hx0.symm.trans hx2)
      have d0 := (rangeAt_below hrg2 hb hbl2) 0 _ rfl; simp only [Nat.mul_one, Nat.add_zero] at d0
      clear hx0 hx2
      go_wp2_with fail
      go_quiet (fail)
      go_wp2
      go_roundw
      case rel => exact ⟨k + 1, by omega, by go_num, hb.trans (below_drewN _ _ _)⟩
      case measure => simp [intOf]; omega
    · go_wp2
      go_ret
      exact ⟨rfl, hb⟩
open Go.RowKit
structure SpaceD where
  fRefs : List Int
  fLast : List Int
def SpaceD.Reads (w : World) (v : Value) (x : SpaceD) : Prop := ∃ (a0 : Option Addr) (c0 : Nat) (a1 : Option Addr) (c1 : Nat), v = .agg #[.slice a0 x.fRefs.length c0, .slice a1 x.fLast.length c1] ∧ Rd encI 1 w a0 x.fRefs.length x.fRefs ∧ Rd encI 1 w a1 x.fLast.length x.fLast
def SpaceD.Own (w : World) (B B1 : Nat) (v : Value) (x : SpaceD) : Prop := ∃ (a0 : Option Addr) (c0 : Nat) (a1 : Option Addr) (c1 : Nat), v = .agg #[.slice a0 x.fRefs.length c0, .slice a1 x.fLast.length c1] ∧ RowO encI 1 3 w B B1 (.slice a0 x.fRefs.length c0) x.fRefs ∧ RowO encI 1 3 w B B1 (.slice a1 x.fLast.length c1) x.fLast ∧ Apart (.slice a0 x.fRefs.length c0) (.slice a1 x.fLast.length c1)
theorem SpaceD.Reads.below {w w' : World} {v : Value} {x : SpaceD} (h : SpaceD.Reads w v x) (hb : Below w.heap.size w w') : SpaceD.Reads w' v x := by
  obtain ⟨a0, c0, a1, c1, rfl, r0, r1⟩ := h
  exact ⟨a0, c0, a1, c1, rfl, r0.below hb, r1.below hb⟩
theorem SpaceD.Own.rd {w : World} {B B1 : Nat} {v : Value} {x : SpaceD} (h : SpaceD.Own w B B1 v x) : SpaceD.Reads w v x := by
  obtain ⟨a0, c0, a1, c1, rfl, r0, r1, p0_1⟩ := h
  obtain ⟨u0, e0, k0, d0⟩ := r0.rd encI_len
  simp only [Value.slice.injEq, true_and] at k0
  obtain ⟨rfl, rfl⟩ := k0
  obtain ⟨u1, e1, k1, d1⟩ := r1.rd encI_len
  simp only [Value.slice.injEq, true_and] at k1
  obtain ⟨rfl, rfl⟩ := k1
  exact ⟨_, _, _, _, rfl, d0, d1⟩
theorem SpaceD.Own.below {w : World} {B B1 : Nat} {v : Value} {x : SpaceD} (h : SpaceD.Own w B B1 v x) {w' : World} {C : Nat} (hb : Below C w w') (hC : w.heap.size ≤ C) : SpaceD.Own w' B B1 v x := by
  obtain ⟨a0, c0, a1, c1, rfl, r0, r1, p0_1⟩ := h
  exact ⟨a0, c0, a1, c1, rfl, r0.below hb hC, r1.below hb hC, p0_1⟩
theorem SpaceD.Own.mono {w : World} {B B1 : Nat} {v : Value} {x : SpaceD} (h : SpaceD.Own w B B1 v x) {B' B1' : Nat} (hB : B' ≤ B) (hB1 : B1 ≤ B1') : SpaceD.Own w B' B1' v x := by
  obtain ⟨a0, c0, a1, c1, rfl, r0, r1, p0_1⟩ := h
  exact ⟨a0, c0, a1, c1, rfl, r0.mono hB hB1, r1.mono hB hB1, p0_1⟩
theorem SpaceD.Own.outside {w : World} {B B1 : Nat} {v : Value} {x : SpaceD} (h : SpaceD.Own w B B1 v x) {w' : World} {C C1 : Nat} (ho : Outside C C1 w w') (hap : B1 ≤ C ∨ C1 ≤ B) : SpaceD.Own w' B B1 v x := by
  obtain ⟨a0, c0, a1, c1, rfl, r0, r1, p0_1⟩ := h
  exact ⟨a0, c0, a1, c1, rfl, r0.outside ho hap, r1.outside ho hap, p0_1⟩
theorem SpaceD.Own.set {w : World} {B B1 : Nat} {v : Value} {x : SpaceD} (h : SpaceD.Own w B B1 v x) {p : Addr} (hp : p.block < B) (u : Value) : SpaceD.Own (w.setCell p u) B B1 v x := by
  obtain ⟨a0, c0, a1, c1, rfl, r0, r1, p0_1⟩ := h
  exact ⟨a0, c0, a1, c1, rfl, r0.set hp u, r1.set hp u, p0_1⟩
def SpaceD.bulk (x : SpaceD) : Nat := x.fRefs.length + x.fLast.length
structure SpaceD.Small (x : SpaceD) : Prop where
  s0_0 : x.fRefs.length ≤ 9223372036854775807
  s1_0 : x.fLast.length ≤ 9223372036854775807
structure SpaceD.Fit (x : SpaceD) : Prop where
  f0 : x.fRefs.length ≤ 1048576
  f1 : x.fLast.length ≤ 1048576
theorem SpaceD.fit {x : SpaceD} (h : x.bulk ≤ 1048576) : x.Fit := by
  unfold SpaceD.bulk at h
  exact ⟨by omega, by omega⟩
theorem szSpace_any (v : Value) (x : SpaceD) (l : Int) (w : World) (hl0 : 0 ≤ l) (hl1 : l ≤ 1048576) (hr : SpaceD.Reads w v x) (hs : x.Small) :
    Calls Tryz.prog 18 #[v, .int .i64 l] w fun e w' => e = .returned (.int .i64 (leftOf l x.bulk)) ∧ Below w.heap.size w w' := by
  obtain ⟨a0, c0, a1, c1, rfl, r0, r1⟩ := hr
  have hbA : Below w.heap.size w (w.alloc (.cells #[.slice a0 x.fRefs.length c0, .slice a1 x.fLast.length c1] 25)) := (Below.refl _ _).alloc (Nat.le_refl _) _
  have hA0 := blk_new w (.cells #[.slice a0 x.fRefs.length c0, .slice a1 x.fLast.length c1] 25) _ rfl
  obtain ⟨t0, ht0⟩ : ∃ t : Nat, t = x.fRefs.length := ⟨_, rfl⟩
  obtain ⟨t1, ht1⟩ : ∃ t : Nat, t = x.fLast.length := ⟨_, rfl⟩
  have HB : Hid (x.bulk = t0 + t1) := by
    show x.bulk = _
    simp only [ht0, ht1]
    unfold SpaceD.bulk
    omega
  have HT0 := Lib.hid ht0
  clear ht0
  have HT1 := Lib.hid ht1
  clear ht1
  go_enter Tryz.func18, Tryz.ntmps18
  go_wp2_with fail
  refine (szIntS_any _ _ _ _ _ (by omega) (by omega) hs.s0_0).mono ?_
  rintro e w1 ⟨rfl, b1⟩
  rw [← HT0.out]
  have hA1 := blk_below hA0 b1 (Nat.le_refl _)
  have hb1 := hbA.trans (b1.mono hbA.size)
  clear b1 hA0
  by_cases g0 : l < (t0 : Int)
  · rw [leftOf_no g0]
    go_wp2
    go_ret
    exact ⟨ret_int (by rw [HB.out, leftOf_no (by omega)]), hb1⟩
  rw [leftOf_yes (Int.not_lt.1 g0)]
  have p1 : w1.cell? ⟨w.heap.size, 1, none⟩ = some (.slice a1 x.fLast.length c1) := blk_cell hA1 1
  go_wp2_with fail
  refine (szIntS_any _ _ _ _ _ (by omega) (by omega) hs.s1_0).mono ?_
  rintro e w2 ⟨rfl, b2⟩
  rw [← HT1.out]
  have hA2 := blk_below hA1 b2 (Nat.le_refl _)
  have hb2 := hb1.trans (b2.mono hb1.size)
  clear b2 hA1
  by_cases g1 : l - t0 < (t1 : Int)
  · rw [leftOf_no g1]
    go_wp2
    go_ret
    exact ⟨ret_int (by rw [HB.out, leftOf_no (by omega)]), hb2⟩
  rw [leftOf_yes (Int.not_lt.1 g1)]
  go_wp2
  go_ret
  exact ⟨ret_int (by rw [HB.out, leftOf_yes (by omega)]; omega), hb2⟩
theorem toSpace_any (v : Value) (x : SpaceD) (w : World) (hf : x.Fit) (hr : SpaceD.Reads w v x) :
    Calls Tryz.prog 24 #[v] w fun e w' => ∃ v', e = .returned v' ∧ SpaceD.Own w' w.heap.size w'.heap.size v' x ∧ Below w.heap.size w w' := by
  obtain ⟨a0, c0, a1, c1, rfl, r0, r1⟩ := hr
  go_enter Tryz.func24, Tryz.ntmps24
  go_wp2_with fail
  have hb0 : Below w.heap.size w (((w.alloc (.cells #[.slice a0 x.fRefs.length c0, .slice a1 x.fLast.length c1] 25)).alloc (.cells #[.slice none 0 0, .slice none 0 0] 30)).alloc (.cells #[.slice none 0 0, .slice none 0 0] 30)) := (((Below.refl _ _).alloc (Nat.le_refl _) _).alloc (by simp) _).alloc (by simp; omega) _
  have hA0 : (((w.alloc (.cells #[.slice a0 x.fRefs.length c0, .slice a1 x.fLast.length c1] 25)).alloc (.cells #[.slice none 0 0, .slice none 0 0] 30)).alloc (.cells #[.slice none 0 0, .slice none 0 0] 30)).heap[w.heap.size]? = some (.cells #[.slice a0 x.fRefs.length c0, .slice a1 x.fLast.length c1] 25 (0, 0)) := blk_alloc (blk_alloc (blk_new w _ _ rfl) _) _
  have hR0 : (((w.alloc (.cells #[.slice a0 x.fRefs.length c0, .slice a1 x.fLast.length c1] 25)).alloc (.cells #[.slice none 0 0, .slice none 0 0] 30)).alloc (.cells #[.slice none 0 0, .slice none 0 0] 30)).heap[w.heap.size + 1]? = some (.cells #[.slice none 0 0, .slice none 0 0] 30 (0, 0)) := blk_alloc (blk_new _ _ (w.heap.size + 1) (by simp)) _
  have hO0 : (((w.alloc (.cells #[.slice a0 x.fRefs.length c0, .slice a1 x.fLast.length c1] 25)).alloc (.cells #[.slice none 0 0, .slice none 0 0] 30)).alloc (.cells #[.slice none 0 0, .slice none 0 0] 30)).heap[w.heap.size + 1 + 1]? = some (.cells #[.slice none 0 0, .slice none 0 0] 30 (0, 0)) := blk_new _ _ (w.heap.size + 1 + 1) (by simp)
  have hz0 : w.heap.size + 1 + 1 < (((w.alloc (.cells #[.slice a0 x.fRefs.length c0, .slice a1 x.fLast.length c1] 25)).alloc (.cells #[.slice none 0 0, .slice none 0 0] 30)).alloc (.cells #[.slice none 0 0, .slice none 0 0] 30)).heap.size := blk_lt hO0
  refine (toIntS_any _ _ _ x.fRefs _ hf.f0 (r0.below hb0)).mono ?_
  rintro e w1 ⟨rfl, on0, b1⟩
  have ro0 : RowO encI 1 3 w1 _ w1.heap.size _ x.fRefs := RowO.mk on0 (fun g hg => (on0.lt g hg).2)
  try simp only [sz_alloc] at ro0
  try simp only [sz_set] at ro0
  clear on0
  have hbW := hb0
  have hb1 := hbW.trans (b1.mono hbW.size)
  have hA1 : w1.heap[w.heap.size]? = some (.cells #[.slice a0 x.fRefs.length c0, .slice a1 x.fLast.length c1] 25 (0, 0)) := blk_below hA0 b1 (Nat.le_refl _)
  have hR1 : w1.heap[w.heap.size + 1]? = some (.cells #[.slice none 0 0, .slice none 0 0] 30 (0, 0)) := blk_below hR0 b1 (Nat.le_refl _)
  have hO1 : w1.heap[w.heap.size + 1 + 1]? = some (.cells #[.slice none 0 0, .slice none 0 0] 30 (0, 0)) := blk_below hO0 b1 (Nat.le_refl _)
  have hz1 : w.heap.size + 1 + 1 < w1.heap.size := blk_lt hO1
  have hs1 := b1.size
  try simp only [sz_alloc] at hs1
  try simp only [sz_set] at hs1
  clear b1 hbW hA0 hR0 hO0
  have pa1 : w1.cell? ⟨w.heap.size, 1, none⟩ = some (.slice a1 x.fLast.length c1) := blk_cell hA1 1
  have po0 : w1.cell? ⟨w.heap.size + 1 + 1, 0, none⟩ = some (.slice none 0 0) := blk_cell hO1 0
  have pf0 := blk_frozen hO1 0
  go_wp2_with fail
  refine (toIntS_any _ _ _ x.fLast _ hf.f1 (r1.below (hb1.setCell (p := ⟨w.heap.size + 1 + 1, 0, none⟩) (by simp; try omega) (.slice (some ⟨w.heap.size + 1 + 1 + 1, 0, none⟩) x.fRefs.length x.fRefs.length)))).mono ?_
  rintro e w2 ⟨rfl, on1, b2⟩
  have ro1 : RowO encI 1 3 w2 _ w2.heap.size _ x.fLast := RowO.mk on1 (fun g hg => (on1.lt g hg).2)
  try simp only [sz_alloc] at ro1
  try simp only [sz_set] at ro1
  clear on1
  have hbW := (hb1.setCell (p := ⟨w.heap.size + 1 + 1, 0, none⟩) (by simp; try omega) (.slice (some ⟨w.heap.size + 1 + 1 + 1, 0, none⟩) x.fRefs.length x.fRefs.length))
  have hb2 := hbW.trans (b2.mono hbW.size)
  have hA2 : w2.heap[w.heap.size]? = some (.cells #[.slice a0 x.fRefs.length c0, .slice a1 x.fLast.length c1] 25 (0, 0)) := blk_below (blk_set_other hA1 (p := ⟨w.heap.size + 1 + 1, 0, none⟩) (by simp; try omega) _) b2 (Nat.le_refl _)
  have hR2 : w2.heap[w.heap.size + 1]? = some (.cells #[.slice none 0 0, .slice none 0 0] 30 (0, 0)) := blk_below (blk_set_other hR1 (p := ⟨w.heap.size + 1 + 1, 0, none⟩) (by simp; try omega) _) b2 (Nat.le_refl _)
  have hO2 : w2.heap[w.heap.size + 1 + 1]? = some (.cells #[.slice (some ⟨w.heap.size + 1 + 1 + 1, 0, none⟩) x.fRefs.length x.fRefs.length, .slice none 0 0] 30 (0, 0)) := blk_below (blk_set hO1 (i := 0) _) b2 (Nat.le_refl _)
  have hz2 : w.heap.size + 1 + 1 < w2.heap.size := blk_lt hO2
  have ro0 := RowO.below (ro0.set (p := ⟨w.heap.size + 1 + 1, 0, none⟩) (by simp; try omega) (.slice (some ⟨w.heap.size + 1 + 1 + 1, 0, none⟩) x.fRefs.length x.fRefs.length)) b2 (Nat.le_refl _)
  have hs2 := b2.size
  try simp only [sz_alloc] at hs2
  try simp only [sz_set] at hs2
  clear b2 hbW hA1 hR1 hO1
  clear pa1 po0 pf0
  have po0 : w2.cell? ⟨w.heap.size + 1 + 1, 0, none⟩ = some (.slice (some ⟨w.heap.size + 1 + 1 + 1, 0, none⟩) x.fRefs.length x.fRefs.length) := blk_cell hO2 0
  have pf0 := blk_frozen hO2 0
  have po1 : w2.cell? ⟨w.heap.size + 1 + 1, 1, none⟩ = some (.slice none 0 0) := blk_cell hO2 1
  have pf1 := blk_frozen hO2 1
  have pr0 : w2.cell? ⟨w.heap.size + 1, 0, none⟩ = some (.slice none 0 0) := blk_cell hR2 0
  have pg0 := blk_frozen hR2 0
  have pr1 : w2.cell? ⟨w.heap.size + 1, 1, none⟩ = some (.slice none 0 0) := blk_cell hR2 1
  have pg1 := blk_frozen hR2 1
  go_wp2
  refine bodyPost_ret (v := .agg #[.slice (some ⟨w.heap.size + 1 + 1 + 1, 0, none⟩) x.fRefs.length x.fRefs.length, .slice (some ⟨w1.heap.size, 0, none⟩) x.fLast.length x.fLast.length]) (by simp [results, Tryz.results24, go_sem, pr0, pr1]) rfl ?_
  refine ⟨_, rfl, ⟨_, _, _, _, rfl, ?q0, ?q1, ?q0_1⟩, ?_⟩
  case q0 =>
    refine RowO.mono (((ro0.set ?_ _).set ?_ _).set ?_ _) ?_ ?_
    all_goals (first | omega | (simp; done) | (simp; omega))
  case q1 =>
    refine RowO.mono (((ro1.set ?_ _).set ?_ _).set ?_ _) ?_ ?_
    all_goals (first | omega | (simp; done) | (simp; omega))
  case q0_1 => exact Apart.of_lt (m := w1.heap.size) (fun g hg => (ro0.lt g hg).2.1) (fun g hg => by have := (ro1.lt g hg).1; first | exact this | omega | (simp at this; omega))
  refine (Below.setCell (Below.setCell (Below.setCell hb2 ?_ _) ?_ _) ?_ _)
  all_goals (first | omega | (simp; done) | (simp; omega))
theorem eqSpace_yes (u v : Value) (x : SpaceD) (w : World) (hf : x.Fit) (hr : SpaceD.Reads w u x) (hs : SpaceD.Reads w v x) :
    Calls Tryz.prog 27 #[u, v] w fun e w' => e = .returned (.bool true) ∧ Below w.heap.size w w' := by
  obtain ⟨a0, c0, a1, c1, rfl, r0, r1⟩ := hr
  obtain ⟨b0, d0, b1, d1, rfl, s0, s1⟩ := hs
  have hb0 : Below w.heap.size w ((w.alloc (.cells #[.slice a0 x.fRefs.length c0, .slice a1 x.fLast.length c1] 30)).alloc (.cells #[.slice b0 x.fRefs.length d0, .slice b1 x.fLast.length d1] 30)) := ((Below.refl _ _).alloc (Nat.le_refl _) _).alloc (by simp) _
  have hA0 : ((w.alloc (.cells #[.slice a0 x.fRefs.length c0, .slice a1 x.fLast.length c1] 30)).alloc (.cells #[.slice b0 x.fRefs.length d0, .slice b1 x.fLast.length d1] 30)).heap[w.heap.size]? = some (.cells #[.slice a0 x.fRefs.length c0, .slice a1 x.fLast.length c1] 30 (0, 0)) := blk_alloc (blk_new w _ _ rfl) _
  have hB0 : ((w.alloc (.cells #[.slice a0 x.fRefs.length c0, .slice a1 x.fLast.length c1] 30)).alloc (.cells #[.slice b0 x.fRefs.length d0, .slice b1 x.fLast.length d1] 30)).heap[w.heap.size + 1]? = some (.cells #[.slice b0 x.fRefs.length d0, .slice b1 x.fLast.length d1] 30 (0, 0)) := blk_new _ _ (w.heap.size + 1) (by simp)
  go_enter Tryz.func27, Tryz.ntmps27
  go_wp2_with fail
  refine (eqIntS_yes _ _ _ _ _ x.fRefs _ hf.f0 (r0.below hb0) (s0.below hb0)).mono ?_
  rintro e w1 ⟨rfl, b1⟩
  have hb1 := hb0.trans (b1.mono hb0.size)
  have hA1 := blk_below hA0 b1 (Nat.le_refl _)
  have hB1 := blk_below hB0 b1 (Nat.le_refl _)
  clear b1 hA0 hB0
  have p1 : w1.cell? ⟨w.heap.size, 1, none⟩ = some (.slice a1 x.fLast.length c1) := blk_cell hA1 1
  have q1 : w1.cell? ⟨w.heap.size + 1, 1, none⟩ = some (.slice b1 x.fLast.length d1) := blk_cell hB1 1
  go_wp2_with fail
  refine (eqIntS_yes _ _ _ _ _ x.fLast _ hf.f1 (r1.below hb1) (s1.below hb1)).mono ?_
  rintro e w2 ⟨rfl, b2⟩
  have hb2 := hb1.trans (b2.mono hb1.size)
  have hA2 := blk_below hA1 b2 (Nat.le_refl _)
  have hB2 := blk_below hB1 b2 (Nat.le_refl _)
  clear b2 hA1 hB1
  clear p1 q1
  go_wp2
  go_ret
  exact ⟨rfl, hb2⟩
open Go.RowKit
def rowOk (i : Nat) (r l : Int) : Bool := inB l 0 900 && (inB r 0 l && ((r != 0 || l == 0) && (inB i 8 63 || decide (r ≤ 0))))
def rowsOk (s : SpaceD) (k : Nat) : Bool := (List.range k).all fun i => rowOk i (s.fRefs.getD i 0) (s.fLast.getD i 0)
theorem rowsOk_succ (s : SpaceD) (k : Nat) : rowsOk s (k + 1) = (rowsOk s k && rowOk k (s.fRefs.getD k 0) (s.fLast.getD k 0)) := by
  simp [rowsOk, List.range_succ]
theorem rowsOk_le {s : SpaceD} {k m : Nat} (h : rowsOk s m = true) (hk : k < m) : rowOk k (s.fRefs.getD k 0) (s.fLast.getD k 0) = true := by
  simp only [rowsOk, List.all_eq_true] at h
  exact h k (List.mem_range.2 hk)
theorem rowsOk_bad {s : SpaceD} {k m : Nat} (hk : k < m) (h : rowOk k (s.fRefs.getD k 0) (s.fLast.getD k 0) = false) : rowsOk s m = false := by
  cases hm : rowsOk s m with
  | false => rfl
  | true => rw [rowsOk_le hm hk] at h; cases h
def SpaceD.ok (s : SpaceD) : Bool := s.fRefs.length == 64 && s.fLast.length == 64 && rowsOk s 64
theorem getD_of {α : Type} {xs : List α} {k : Nat} {x d : α} (h : xs[k]? = some x) : xs.getD k d = x := by simp [List.getD, h]
theorem specSpaceOk_any (v : Value) (s : SpaceD) (w : World) (hr : SpaceD.Reads w v s) (hf : s.Fit) :
    Calls Tryz.prog 48 #[v] w fun e w' => e = .returned (.bool s.ok) ∧ Below w.heap.size w w' := by
  obtain ⟨a0, c0, a1, c1, rfl, r0, r1⟩ := hr
  have hf0 := hf.f0
  have hf1 := hf.f1
  have hb0 : Below w.heap.size w (w.alloc (.cells #[.slice a0 s.fRefs.length c0, .slice a1 s.fLast.length c1] 30)) := (Below.refl _ _).alloc (Nat.le_refl _) _
  have hA0 := blk_new w (.cells #[.slice a0 s.fRefs.length c0, .slice a1 s.fLast.length c1] 30) _ rfl
  by_cases h0 : s.fRefs.length = 64
  rotate_left
  · have H : Hid (s.ok = false) := by show _ = _; simp [SpaceD.ok, h0]
    go_enter Tryz.func48, Tryz.ntmps48
    go_wp2
    go_ret
    exact ⟨ret_bool H.out.symm, hb0⟩
  have H0 := Lib.hid h0
  have hl0 := h0
  rw [h0] at r0 hb0 hA0 ⊢
  clear h0
  by_cases h1 : s.fLast.length = 64
  rotate_left
  · have H : Hid (s.ok = false) := by show _ = _; simp [SpaceD.ok, h1]
    go_enter Tryz.func48, Tryz.ntmps48
    go_wp2
    go_ret
    exact ⟨ret_bool H.out.symm, hb0⟩
  have H : Hid (s.ok = rowsOk s 64) := by show _ = _; simp [SpaceD.ok, hl0, h1]
  rw [h1] at r1 hb0 hA0 ⊢
  have H1 := Lib.hid h1
  clear h1 hl0 hf0 hf1 hf
  go_enter Tryz.func48, Tryz.ntmps48
  go_wp2
  go_loopw [3] (fun i wr => ∃ k : Nat, k ≤ 64 ∧ i = .int .i64 k ∧ rowsOk s k = true ∧ Below w.heap.size w wr ∧ wr.heap[w.heap.size]? = some (.cells #[.slice a0 64 c0, .slice a1 64 c1] 30 (0, 0))) (fun i _ => 64 - (intOf i).toNat)
  case atStart => exact ⟨0, by omega, rfl, rfl, hb0, hA0⟩
  case round =>
    obtain ⟨k, hk, rfl, hok, hb, hA⟩ := hrel
    have HOK := Lib.hid hok
    clear hok
    by_cases hlt : k < 64
    · obtain ⟨b, off, r, hx0, rfl, hbl, hrg⟩ := r0.at_ k (by rw [H0.out]; exact hlt)
      have d0 := (rangeAt_below hrg hb hbl) 0 _ rfl
      simp only [Nat.mul_one, Nat.add_zero] at d0
      obtain ⟨b2, off2, l, hx1, rfl, hbl2, hrg2⟩ := r1.at_ k (by rw [H1.out]; exact hlt)
      have d1 := (rangeAt_below hrg2 hb hbl2) 0 _ rfl
      simp only [Nat.mul_one, Nat.add_zero] at d1
      have hg0 : s.fRefs.getD k 0 = r := getD_of hx0
      have hg1 : s.fLast.getD k 0 = l := getD_of hx1
      have p0 : wr.cell? ⟨w.heap.size, 0, none⟩ = some (.slice (some ⟨b, off, none⟩) 64 c0) := blk_cell hA 0
      have p1 : wr.cell? ⟨w.heap.size, 1, none⟩ = some (.slice (some ⟨b2, off2, none⟩) 64 c1) := blk_cell hA 1
      have hlast : Hid (rowOk k r l = false → s.ok = false) := fun h => by rw [H.out]; exact rowsOk_bad hlt (by rw [hg0, hg1]; exact h)
      have hnext : Hid (rowOk k r l = true → rowsOk s (k + 1) = true) := fun h => by rw [rowsOk_succ, HOK.out, hg0, hg1, h]; rfl
      have HA := Lib.hid hA
      clear hx0 hx1 hg0 hg1 hrg hrg2 hA hA0 hb0
      by_cases g1 : inB l 0 900 = true
      rotate_left
      · have g1' : inB l 0 900 = false := by simpa using g1
        have HR : Hid (rowOk k r l = false) := by show _ = _; simp [rowOk, g1']
        clear g1
        go_wp2_with fail
        go_quiet ((first | (go_at_call 37; exact Calls.quiet_of_same ((l6In_any _ _ _ _).mono fun _ _ ⟨h1, h2⟩ => ⟨h1, h2.symm⟩)) | (go_at_call 75; exact Calls.quiet_of_same ((l2Row_any _ _).mono fun _ _ ⟨h1, h2⟩ => ⟨h1, h2.symm⟩))))
        go_wp2
        go_ret
        exact ⟨ret_bool (hlast.out HR.out).symm, hb.trans (below_drewN _ _ _)⟩
      have hl := inB_true g1
      by_cases g2 : inB r 0 l = true
      rotate_left
      · have g2' : inB r 0 l = false := by simpa using g2
        have HR : Hid (rowOk k r l = false) := by show _ = _; simp [rowOk, g2']
        clear g2
        go_wp2_with fail
        go_quiet ((first | (go_at_call 37; exact Calls.quiet_of_same ((l6In_any _ _ _ _).mono fun _ _ ⟨h1, h2⟩ => ⟨h1, h2.symm⟩)) | (go_at_call 75; exact Calls.quiet_of_same ((l2Row_any _ _).mono fun _ _ ⟨h1, h2⟩ => ⟨h1, h2.symm⟩))))
        go_wp2
        go_ret
        exact ⟨ret_bool (hlast.out HR.out).symm, hb.trans (below_drewN _ _ _)⟩
      have hr2 := inB_true g2
      by_cases g3 : r = 0
      · subst g3
        by_cases g4 : l = 0
        · subst g4
          cases g5 : inB (k : Int) 8 63
          · have HR : Hid (rowOk k 0 0 = true) := by show _ = _; simp [rowOk, g1, g2]
            go_wp2_with fail
            go_quiet ((first | (go_at_call 37; exact Calls.quiet_of_same ((l6In_any _ _ _ _).mono fun _ _ ⟨h1, h2⟩ => ⟨h1, h2.symm⟩)) | (go_at_call 75; exact Calls.quiet_of_same ((l2Row_any _ _).mono fun _ _ ⟨h1, h2⟩ => ⟨h1, h2.symm⟩))))
            go_wp2
            go_roundw
            case rel => exact ⟨k + 1, by omega, by go_num, hnext.out HR.out, hb.trans (below_drewN _ _ _), HA.out⟩
            case measure => simp [intOf]; omega
          · have HR : Hid (rowOk k 0 0 = true) := by show _ = _; simp [rowOk, g1, g2]
            go_wp2_with fail
            go_quiet ((first | (go_at_call 37; exact Calls.quiet_of_same ((l6In_any _ _ _ _).mono fun _ _ ⟨h1, h2⟩ => ⟨h1, h2.symm⟩)) | (go_at_call 75; exact Calls.quiet_of_same ((l2Row_any _ _).mono fun _ _ ⟨h1, h2⟩ => ⟨h1, h2.symm⟩))))
            go_wp2
            go_roundw
            case rel => exact ⟨k + 1, by omega, by go_num, hnext.out HR.out, hb.trans (below_drewN _ _ _), HA.out⟩
            case measure => simp [intOf]; omega
        · have g4' : ((l : Int) != 0) = true := by simpa using g4
          have HR : Hid (rowOk k 0 l = false) := by show _ = _; simp [rowOk, g4]
          clear g4
          go_wp2_with fail
          go_quiet ((first | (go_at_call 37; exact Calls.quiet_of_same ((l6In_any _ _ _ _).mono fun _ _ ⟨h1, h2⟩ => ⟨h1, h2.symm⟩)) | (go_at_call 75; exact Calls.quiet_of_same ((l2Row_any _ _).mono fun _ _ ⟨h1, h2⟩ => ⟨h1, h2.symm⟩))))
          go_wp2
          go_ret
          exact ⟨ret_bool (hlast.out HR.out).symm, hb.trans (below_drewN _ _ _)⟩
      · have g3' : ((r : Int) == 0) = false := by simpa using g3
        have g6 : 0 < r := by omega
        cases g5 : inB (k : Int) 8 63
        · have HR : Hid (rowOk k r l = false) := by show _ = _; simp [rowOk, g5]; omega
          clear g3
          go_wp2_with fail
          go_quiet ((first | (go_at_call 37; exact Calls.quiet_of_same ((l6In_any _ _ _ _).mono fun _ _ ⟨h1, h2⟩ => ⟨h1, h2.symm⟩)) | (go_at_call 75; exact Calls.quiet_of_same ((l2Row_any _ _).mono fun _ _ ⟨h1, h2⟩ => ⟨h1, h2.symm⟩))))
          go_wp2
          go_ret
          exact ⟨ret_bool (hlast.out HR.out).symm, hb.trans (below_drewN _ _ _)⟩
        · have HR : Hid (rowOk k r l = true) := by show _ = _; simp [rowOk, g1, g2, g5, g3]
          clear g3
          go_wp2_with fail
          go_quiet ((first | (go_at_call 37; exact Calls.quiet_of_same ((l6In_any _ _ _ _).mono fun _ _ ⟨h1, h2⟩ => ⟨h1, h2.symm⟩)) | (go_at_call 75; exact Calls.quiet_of_same ((l2Row_any _ _).mono fun _ _ ⟨h1, h2⟩ => ⟨h1, h2.symm⟩))))
          go_wp2
          go_roundw
          case rel => exact ⟨k + 1, by omega, by go_num, hnext.out HR.out, hb.trans (below_drewN _ _ _), HA.out⟩
          case measure => simp [intOf]; omega
    · have hk' : k = 64 := by omega
      subst hk'
      go_wp2
      go_ret
      exact ⟨ret_bool (by rw [H.out, HOK.out]), hb⟩
def rowOkI (i : Nat) (r l : Int) : Bool := inB r 0 900 && (inB l r 900 && ((r != 0 || l == 0) && (decide (r ≤ 0) || !decide ((i : Int) < 8))))
theorem rowOkI_eq {i : Nat} {r l : Int} (hi : i < 64 := by omega) : rowOk i r l = rowOkI i r l := by
  unfold rowOk rowOkI inB
  rw [Bool.eq_iff_iff]
  simp
  omega
theorem implSpaceOk_any (v : Value) (s : SpaceD) (w : World) (hr : SpaceD.Reads w v s) (hf : s.Fit) :
    Calls Tryz.prog 120 #[v] w fun e w' => e = .returned (.bool s.ok) ∧ Below w.heap.size w w' := by
  obtain ⟨a0, c0, a1, c1, rfl, r0, r1⟩ := hr
  have hf0 := hf.f0
  have hf1 := hf.f1
  have hb0 : Below w.heap.size w (w.alloc (.cells #[.slice a0 s.fRefs.length c0, .slice a1 s.fLast.length c1] 30)) := (Below.refl _ _).alloc (Nat.le_refl _) _
  have hA0 := blk_new w (.cells #[.slice a0 s.fRefs.length c0, .slice a1 s.fLast.length c1] 30) _ rfl
  by_cases h0 : s.fRefs.length = 64
  rotate_left
  · have H : Hid (s.ok = false) := by show _ = _; simp [SpaceD.ok, h0]
    go_enter Tryz.func120, Tryz.ntmps120
    go_wp2
    go_ret
    exact ⟨ret_bool H.out.symm, hb0⟩
  have H0 := Lib.hid h0
  have hl0 := h0
  rw [h0] at r0 hb0 hA0 ⊢
  clear h0
  by_cases h1 : s.fLast.length = 64
  rotate_left
  · have H : Hid (s.ok = false) := by show _ = _; simp [SpaceD.ok, h1]
    go_enter Tryz.func120, Tryz.ntmps120
    go_wp2
    go_ret
    exact ⟨ret_bool H.out.symm, hb0⟩
  have H : Hid (s.ok = rowsOk s 64) := by show _ = _; simp [SpaceD.ok, hl0, h1]
  rw [h1] at r1 hb0 hA0 ⊢
  have H1 := Lib.hid h1
  clear h1 hl0 hf0 hf1 hf
  go_enter Tryz.func120, Tryz.ntmps120
  go_wp2
  go_loopw [19] (fun i wr => ∃ k : Nat, k ≤ 64 ∧ i = .int .i64 k ∧ rowsOk s k = true ∧ Below w.heap.size w wr ∧ wr.heap[w.heap.size]? = some (.cells #[.slice a0 64 c0, .slice a1 64 c1] 30 (0, 0))) (fun i _ => 64 - (intOf i).toNat)
  case atStart => exact ⟨0, by omega, rfl, rfl, hb0, hA0⟩
  case round =>
    obtain ⟨k, hk, rfl, hok, hb, hA⟩ := hrel
    have HOK := Lib.hid hok
    clear hok
    by_cases hlt : k < 64
    · obtain ⟨b, off, r, hx0, rfl, hbl, hrg⟩ := r0.at_ k (by rw [H0.out]; exact hlt)
      have d0 := (rangeAt_below hrg hb hbl) 0 _ rfl
      simp only [Nat.mul_one, Nat.add_zero] at d0
      obtain ⟨b2, off2, l, hx1, rfl, hbl2, hrg2⟩ := r1.at_ k (by rw [H1.out]; exact hlt)
      have d1 := (rangeAt_below hrg2 hb hbl2) 0 _ rfl
      simp only [Nat.mul_one, Nat.add_zero] at d1
      have hg0 : s.fRefs.getD k 0 = r := getD_of hx0
      have hg1 : s.fLast.getD k 0 = l := getD_of hx1
      have p0 : wr.cell? ⟨w.heap.size, 0, none⟩ = some (.slice (some ⟨b, off, none⟩) 64 c0) := blk_cell hA 0
      have p1 : wr.cell? ⟨w.heap.size, 1, none⟩ = some (.slice (some ⟨b2, off2, none⟩) 64 c1) := blk_cell hA 1
      have hlast : Hid (rowOk k r l = false → s.ok = false) := fun h => by rw [H.out]; exact rowsOk_bad hlt (by rw [hg0, hg1]; exact h)
      have hnext : Hid (rowOk k r l = true → rowsOk s (k + 1) = true) := fun h => by rw [rowsOk_succ, HOK.out, hg0, hg1, h]; rfl
      have HA := Lib.hid hA
      clear hx0 hx1 hg0 hg1 hrg hrg2 hA hA0 hb0
      have hlast : Hid (rowOkI k r l = false → s.ok = false) := fun h => hlast.out (by rw [rowOkI_eq]; exact h)
      have hnext : Hid (rowOkI k r l = true → rowsOk s (k + 1) = true) := fun h => hnext.out (by rw [rowOkI_eq]; exact h)
      by_cases g1 : inB r 0 900 = true
      rotate_left
      · have g1' : inB r 0 900 = false := by simpa using g1
        have HR : Hid (rowOkI k r l = false) := by show _ = _; simp [rowOkI, g1']
        clear g1
        go_wp2_with (go_at_call 42; refine (within_any _ _ _ _).mono ?_; rintro e w' ⟨rfl, rfl⟩)
        go_ret
        exact ⟨ret_bool (hlast.out HR.out).symm, hb⟩
      have hr2 := inB_true g1
      by_cases g2 : inB l r 900 = true
      rotate_left
      · have g2' : inB l r 900 = false := by simpa using g2
        have HR : Hid (rowOkI k r l = false) := by show _ = _; simp [rowOkI, g2']
        clear g2
        go_wp2_with (go_at_call 42; refine (within_any _ _ _ _).mono ?_; rintro e w' ⟨rfl, rfl⟩)
        go_ret
        exact ⟨ret_bool (hlast.out HR.out).symm, hb⟩
      have hl := inB_true g2
      by_cases g3 : r = 0
      · subst g3
        by_cases g4 : l = 0
        · subst g4
          have HR : Hid (rowOkI k 0 0 = true) := by show _ = _; simp [rowOkI, g1]
          go_wp2_with (go_at_call 42; refine (within_any _ _ _ _).mono ?_; rintro e w' ⟨rfl, rfl⟩)
          go_roundw
          case rel => exact ⟨k + 1, by omega, by go_num, hnext.out HR.out, hb, HA.out⟩
          case measure => simp [intOf]; omega
        · have g4' : ((l : Int) != 0) = true := by simpa using g4
          have HR : Hid (rowOkI k 0 l = false) := by show _ = _; simp [rowOkI, g4]
          clear g4
          go_wp2_with (go_at_call 42; refine (within_any _ _ _ _).mono ?_; rintro e w' ⟨rfl, rfl⟩)
          go_ret
          exact ⟨ret_bool (hlast.out HR.out).symm, hb⟩
      · have g3' : ((r : Int) == 0) = false := by simpa using g3
        have g6 : 0 < r := by omega
        by_cases g5 : (k : Int) < 8
        · have HR : Hid (rowOkI k r l = false) := by show _ = _; simp [rowOkI, g5, g6]
          clear g3
          go_wp2_with (go_at_call 42; refine (within_any _ _ _ _).mono ?_; rintro e w' ⟨rfl, rfl⟩)
          go_ret
          exact ⟨ret_bool (hlast.out HR.out).symm, hb⟩
        · have HR : Hid (rowOkI k r l = true) := by show _ = _; simp [rowOkI, g1, g2, g5, g3]
          clear g3
          go_wp2_with (go_at_call 42; refine (within_any _ _ _ _).mono ?_; rintro e w' ⟨rfl, rfl⟩)
          go_roundw
          case rel => exact ⟨k + 1, by omega, by go_num, hnext.out HR.out, hb, HA.out⟩
          case measure => simp [intOf]; omega
    · have hk' : k = 64 := by omega
      subst hk'
      go_wp2
      go_ret
      exact ⟨ret_bool (by rw [H.out, HOK.out]), hb⟩
open Go.RowKit
structure StoreD where
  fRows : List ByteArray
  fSpace : SpaceD
  fTxg : Int
  fGone : List PtrD
  fKeep : Int
  fDead : List PtrD
  fSame : Bool
abbrev sL (a0 : Option Addr) (c0 : Nat) (a1 : Option Addr) (c1 : Nat) (a2 : Option Addr) (c2 : Nat) (a4 : Option Addr) (c4 : Nat) (a6 : Option Addr) (c6 : Nat) (st : StoreD) : List Value := [.slice a0 st.fRows.length c0, .slice a1 st.fSpace.fRefs.length c1, .slice a2 st.fSpace.fLast.length c2, .int .i64 st.fTxg, .slice a4 st.fGone.length c4, .int .i64 st.fKeep, .slice a6 st.fDead.length c6, .bool st.fSame]
abbrev sV (a0 : Option Addr) (c0 : Nat) (a1 : Option Addr) (c1 : Nat) (a2 : Option Addr) (c2 : Nat) (a4 : Option Addr) (c4 : Nat) (a6 : Option Addr) (c6 : Nat) (st : StoreD) : Value := .agg #[.slice a0 st.fRows.length c0, .slice a1 st.fSpace.fRefs.length c1, .slice a2 st.fSpace.fLast.length c2, .int .i64 st.fTxg, .slice a4 st.fGone.length c4, .int .i64 st.fKeep, .slice a6 st.fDead.length c6, .bool st.fSame]
def StoreD.Reads (w : World) (v : Value) (x : StoreD) : Prop := ∃ (a0 : Option Addr) (c0 : Nat) (a1 : Option Addr) (c1 : Nat) (a2 : Option Addr) (c2 : Nat) (a4 : Option Addr) (c4 : Nat) (a6 : Option Addr) (c6 : Nat), v = .agg #[.slice a0 x.fRows.length c0, .slice a1 x.fSpace.fRefs.length c1, .slice a2 x.fSpace.fLast.length c2, .int .i64 x.fTxg, .slice a4 x.fGone.length c4, .int .i64 x.fKeep, .slice a6 x.fDead.length c6, .bool x.fSame] ∧ Rd encS 1 w a0 x.fRows.length x.fRows ∧ Rd encI 1 w a1 x.fSpace.fRefs.length x.fSpace.fRefs ∧ Rd encI 1 w a2 x.fSpace.fLast.length x.fSpace.fLast ∧ Rd PtrD.cells 5 w a4 x.fGone.length x.fGone ∧ Rd PtrD.cells 5 w a6 x.fDead.length x.fDead
def StoreD.Own (w : World) (B B1 : Nat) (v : Value) (x : StoreD) : Prop := ∃ (a0 : Option Addr) (c0 : Nat) (a1 : Option Addr) (c1 : Nat) (a2 : Option Addr) (c2 : Nat) (a4 : Option Addr) (c4 : Nat) (a6 : Option Addr) (c6 : Nat), v = .agg #[.slice a0 x.fRows.length c0, .slice a1 x.fSpace.fRefs.length c1, .slice a2 x.fSpace.fLast.length c2, .int .i64 x.fTxg, .slice a4 x.fGone.length c4, .int .i64 x.fKeep, .slice a6 x.fDead.length c6, .bool x.fSame] ∧ RowO encS 1 9 w B B1 (.slice a0 x.fRows.length c0) x.fRows ∧ RowO encI 1 3 w B B1 (.slice a1 x.fSpace.fRefs.length c1) x.fSpace.fRefs ∧ RowO encI 1 3 w B B1 (.slice a2 x.fSpace.fLast.length c2) x.fSpace.fLast ∧ RowO PtrD.cells 5 35 w B B1 (.slice a4 x.fGone.length c4) x.fGone ∧ RowO PtrD.cells 5 35 w B B1 (.slice a6 x.fDead.length c6) x.fDead ∧ Apart (.slice a0 x.fRows.length c0) (.slice a1 x.fSpace.fRefs.length c1) ∧ Apart (.slice a0 x.fRows.length c0) (.slice a2 x.fSpace.fLast.length c2) ∧ Apart (.slice a0 x.fRows.length c0) (.slice a4 x.fGone.length c4) ∧ Apart (.slice a0 x.fRows.length c0) (.slice a6 x.fDead.length c6) ∧ Apart (.slice a1 x.fSpace.fRefs.length c1) (.slice a2 x.fSpace.fLast.length c2) ∧ Apart (.slice a1 x.fSpace.fRefs.length c1) (.slice a4 x.fGone.length c4) ∧ Apart (.slice a1 x.fSpace.fRefs.length c1) (.slice a6 x.fDead.length c6) ∧ Apart (.slice a2 x.fSpace.fLast.length c2) (.slice a4 x.fGone.length c4) ∧ Apart (.slice a2 x.fSpace.fLast.length c2) (.slice a6 x.fDead.length c6) ∧ Apart (.slice a4 x.fGone.length c4) (.slice a6 x.fDead.length c6)
theorem StoreD.Reads.below {w w' : World} {v : Value} {x : StoreD} (h : StoreD.Reads w v x) (hb : Below w.heap.size w w') : StoreD.Reads w' v x := by
  obtain ⟨a0, c0, a1, c1, a2, c2, a4, c4, a6, c6, rfl, r0, r1, r2, r4, r6⟩ := h
  exact ⟨a0, c0, a1, c1, a2, c2, a4, c4, a6, c6, rfl, r0.below hb, r1.below hb, r2.below hb, r4.below hb, r6.below hb⟩
theorem StoreD.Own.rd {w : World} {B B1 : Nat} {v : Value} {x : StoreD} (h : StoreD.Own w B B1 v x) : StoreD.Reads w v x := by
  obtain ⟨a0, c0, a1, c1, a2, c2, a4, c4, a6, c6, rfl, r0, r1, r2, r4, r6, p0_1, p0_2, p0_4, p0_6, p1_2, p1_4, p1_6, p2_4, p2_6, p4_6⟩ := h
  obtain ⟨u0, e0, k0, d0⟩ := r0.rd encS_len
  simp only [Value.slice.injEq, true_and] at k0
  obtain ⟨rfl, rfl⟩ := k0
  obtain ⟨u1, e1, k1, d1⟩ := r1.rd encI_len
  simp only [Value.slice.injEq, true_and] at k1
  obtain ⟨rfl, rfl⟩ := k1
  obtain ⟨u2, e2, k2, d2⟩ := r2.rd encI_len
  simp only [Value.slice.injEq, true_and] at k2
  obtain ⟨rfl, rfl⟩ := k2
  obtain ⟨u4, e4, k4, d4⟩ := r4.rd PtrD.cells_len
  simp only [Value.slice.injEq, true_and] at k4
  obtain ⟨rfl, rfl⟩ := k4
  obtain ⟨u6, e6, k6, d6⟩ := r6.rd PtrD.cells_len
  simp only [Value.slice.injEq, true_and] at k6
  obtain ⟨rfl, rfl⟩ := k6
  exact ⟨_, _, _, _, _, _, _, _, _, _, rfl, d0, d1, d2, d4, d6⟩
theorem StoreD.Own.below {w : World} {B B1 : Nat} {v : Value} {x : StoreD} (h : StoreD.Own w B B1 v x) {w' : World} {C : Nat} (hb : Below C w w') (hC : w.heap.size ≤ C) : StoreD.Own w' B B1 v x := by
  obtain ⟨a0, c0, a1, c1, a2, c2, a4, c4, a6, c6, rfl, r0, r1, r2, r4, r6, p0_1, p0_2, p0_4, p0_6, p1_2, p1_4, p1_6, p2_4, p2_6, p4_6⟩ := h
  exact ⟨a0, c0, a1, c1, a2, c2, a4, c4, a6, c6, rfl, r0.below hb hC, r1.below hb hC, r2.below hb hC, r4.below hb hC, r6.below hb hC, p0_1, p0_2, p0_4, p0_6, p1_2, p1_4, p1_6, p2_4, p2_6, p4_6⟩
theorem StoreD.Own.mono {w : World} {B B1 : Nat} {v : Value} {x : StoreD} (h : StoreD.Own w B B1 v x) {B' B1' : Nat} (hB : B' ≤ B) (hB1 : B1 ≤ B1') : StoreD.Own w B' B1' v x := by
  obtain ⟨a0, c0, a1, c1, a2, c2, a4, c4, a6, c6, rfl, r0, r1, r2, r4, r6, p0_1, p0_2, p0_4, p0_6, p1_2, p1_4, p1_6, p2_4, p2_6, p4_6⟩ := h
  exact ⟨a0, c0, a1, c1, a2, c2, a4, c4, a6, c6, rfl, r0.mono hB hB1, r1.mono hB hB1, r2.mono hB hB1, r4.mono hB hB1, r6.mono hB hB1, p0_1, p0_2, p0_4, p0_6, p1_2, p1_4, p1_6, p2_4, p2_6, p4_6⟩
theorem StoreD.Own.outside {w : World} {B B1 : Nat} {v : Value} {x : StoreD} (h : StoreD.Own w B B1 v x) {w' : World} {C C1 : Nat} (ho : Outside C C1 w w') (hap : B1 ≤ C ∨ C1 ≤ B) : StoreD.Own w' B B1 v x := by
  obtain ⟨a0, c0, a1, c1, a2, c2, a4, c4, a6, c6, rfl, r0, r1, r2, r4, r6, p0_1, p0_2, p0_4, p0_6, p1_2, p1_4, p1_6, p2_4, p2_6, p4_6⟩ := h
  exact ⟨a0, c0, a1, c1, a2, c2, a4, c4, a6, c6, rfl, r0.outside ho hap, r1.outside ho hap, r2.outside ho hap, r4.outside ho hap, r6.outside ho hap, p0_1, p0_2, p0_4, p0_6, p1_2, p1_4, p1_6, p2_4, p2_6, p4_6⟩
theorem StoreD.Own.set {w : World} {B B1 : Nat} {v : Value} {x : StoreD} (h : StoreD.Own w B B1 v x) {p : Addr} (hp : p.block < B) (u : Value) : StoreD.Own (w.setCell p u) B B1 v x := by
  obtain ⟨a0, c0, a1, c1, a2, c2, a4, c4, a6, c6, rfl, r0, r1, r2, r4, r6, p0_1, p0_2, p0_4, p0_6, p1_2, p1_4, p1_6, p2_4, p2_6, p4_6⟩ := h
  exact ⟨a0, c0, a1, c1, a2, c2, a4, c4, a6, c6, rfl, r0.set hp u, r1.set hp u, r2.set hp u, r4.set hp u, r6.set hp u, p0_1, p0_2, p0_4, p0_6, p1_2, p1_4, p1_6, p2_4, p2_6, p4_6⟩
def StoreD.bulk (x : StoreD) : Nat := (x.fRows.length + tot ByteArray.size x.fRows) + x.fSpace.fRefs.length + x.fSpace.fLast.length + x.fGone.length + x.fDead.length
structure StoreD.Small (x : StoreD) : Prop where
  s0_0 : x.fRows.length ≤ 9223372036854775807
  s0_1 : (∀ e ∈ x.fRows, e.size ≤ 9223372036854775807)
  s1_0 : x.fSpace.fRefs.length ≤ 9223372036854775807
  s2_0 : x.fSpace.fLast.length ≤ 9223372036854775807
  s4_0 : x.fGone.length ≤ 9223372036854775807
  s6_0 : x.fDead.length ≤ 9223372036854775807
structure StoreD.Fit (x : StoreD) : Prop where
  f0 : x.fRows.length ≤ 1048576
  f1 : x.fSpace.fRefs.length ≤ 1048576
  f2 : x.fSpace.fLast.length ≤ 1048576
  f4 : x.fGone.length ≤ 1048576
  f6 : x.fDead.length ≤ 1048576
theorem StoreD.fit {x : StoreD} (h : x.bulk ≤ 1048576) : x.Fit := by
  unfold StoreD.bulk at h
  exact ⟨by omega, by omega, by omega, by omega, by omega⟩
theorem szStore_any (v : Value) (x : StoreD) (l : Int) (w : World) (hl0 : 0 ≤ l) (hl1 : l ≤ 1048576) (hr : StoreD.Reads w v x) (hs : x.Small) :
    Calls Tryz.prog 5 #[v, .int .i64 l] w fun e w' => e = .returned (.int .i64 (leftOf l x.bulk)) ∧ Below w.heap.size w w' := by
  obtain ⟨a0, c0, a1, c1, a2, c2, a4, c4, a6, c6, rfl, r0, r1, r2, r4, r6⟩ := hr
  have hbA : Below w.heap.size w (w.alloc (.cells #[.slice a0 x.fRows.length c0, .slice a1 x.fSpace.fRefs.length c1, .slice a2 x.fSpace.fLast.length c2, .int .i64 x.fTxg, .slice a4 x.fGone.length c4, .int .i64 x.fKeep, .slice a6 x.fDead.length c6, .bool x.fSame] 28)) := (Below.refl _ _).alloc (Nat.le_refl _) _
  have hA0 := blk_new w (.cells #[.slice a0 x.fRows.length c0, .slice a1 x.fSpace.fRefs.length c1, .slice a2 x.fSpace.fLast.length c2, .int .i64 x.fTxg, .slice a4 x.fGone.length c4, .int .i64 x.fKeep, .slice a6 x.fDead.length c6, .bool x.fSame] 28) _ rfl
  obtain ⟨t0, ht0⟩ : ∃ t : Nat, t = (x.fRows.length + tot ByteArray.size x.fRows) := ⟨_, rfl⟩
  obtain ⟨t1, ht1⟩ : ∃ t : Nat, t = x.fSpace.bulk := ⟨_, rfl⟩
  obtain ⟨t2, ht2⟩ : ∃ t : Nat, t = x.fGone.length := ⟨_, rfl⟩
  obtain ⟨t3, ht3⟩ : ∃ t : Nat, t = x.fDead.length := ⟨_, rfl⟩
  have HB : Hid (x.bulk = t0 + t1 + t2 + t3) := by
    show x.bulk = _
    simp only [ht0, ht1, ht2, ht3]
    unfold StoreD.bulk
    simp only [SpaceD.bulk]
    omega
  have HT0 := Lib.hid ht0
  clear ht0
  have HT1 := Lib.hid ht1
  clear ht1
  have HT2 := Lib.hid ht2
  clear ht2
  have HT3 := Lib.hid ht3
  clear ht3
  go_enter Tryz.func5, Tryz.ntmps5
  go_wp2_with fail
  refine (szStringS_any _ _ _ x.fRows _ _ (by omega) (by omega) hs.s0_0 (r0.below hbA) hs.s0_1).mono ?_
  rintro e w1 ⟨rfl, b1⟩
  rw [← HT0.out]
  have hA1 := blk_below hA0 b1 (Nat.le_refl _)
  have hb1 := hbA.trans (b1.mono hbA.size)
  clear b1 hA0
  by_cases g0 : l < (t0 : Int)
  · rw [leftOf_no g0]
    go_wp2
    go_ret
    exact ⟨ret_int (by rw [HB.out, leftOf_no (by omega)]), hb1⟩
  rw [leftOf_yes (Int.not_lt.1 g0)]
  have p1 : w1.cell? ⟨w.heap.size, 1, none⟩ = some (.slice a1 x.fSpace.fRefs.length c1) := blk_cell hA1 1
  have p2 : w1.cell? ⟨w.heap.size, 2, none⟩ = some (.slice a2 x.fSpace.fLast.length c2) := blk_cell hA1 2
  go_wp2_with fail
  refine (szSpace_any _ x.fSpace _ _ (by omega) (by omega) ⟨_, _, _, _, rfl, r1.below hb1, r2.below hb1⟩ ⟨hs.s1_0, hs.s2_0⟩).mono ?_
  rintro e w2 ⟨rfl, b2⟩
  rw [← HT1.out]
  have hA2 := blk_below hA1 b2 (Nat.le_refl _)
  have hb2 := hb1.trans (b2.mono hb1.size)
  clear b2 hA1
  by_cases g1 : l - t0 < (t1 : Int)
  · rw [leftOf_no g1]
    go_wp2
    go_ret
    exact ⟨ret_int (by rw [HB.out, leftOf_no (by omega)]), hb2⟩
  rw [leftOf_yes (Int.not_lt.1 g1)]
  have p4 : w2.cell? ⟨w.heap.size, 4, none⟩ = some (.slice a4 x.fGone.length c4) := blk_cell hA2 4
  go_wp2_with fail
  refine (szPtrS_any _ _ _ _ _ (by omega) (by omega) hs.s4_0).mono ?_
  rintro e w3 ⟨rfl, b3⟩
  rw [← HT2.out]
  have hA3 := blk_below hA2 b3 (Nat.le_refl _)
  have hb3 := hb2.trans (b3.mono hb2.size)
  clear b3 hA2
  by_cases g2 : l - t0 - t1 < (t2 : Int)
  · rw [leftOf_no g2]
    go_wp2
    go_ret
    exact ⟨ret_int (by rw [HB.out, leftOf_no (by omega)]), hb3⟩
  rw [leftOf_yes (Int.not_lt.1 g2)]
  have p6 : w3.cell? ⟨w.heap.size, 6, none⟩ = some (.slice a6 x.fDead.length c6) := blk_cell hA3 6
  go_wp2_with fail
  refine (szPtrS_any _ _ _ _ _ (by omega) (by omega) hs.s6_0).mono ?_
  rintro e w4 ⟨rfl, b4⟩
  rw [← HT3.out]
  have hA4 := blk_below hA3 b4 (Nat.le_refl _)
  have hb4 := hb3.trans (b4.mono hb3.size)
  clear b4 hA3
  by_cases g3 : l - t0 - t1 - t2 < (t3 : Int)
  · rw [leftOf_no g3]
    go_wp2
    go_ret
    exact ⟨ret_int (by rw [HB.out, leftOf_no (by omega)]), hb4⟩
  rw [leftOf_yes (Int.not_lt.1 g3)]
  go_wp2
  go_ret
  exact ⟨ret_int (by rw [HB.out, leftOf_yes (by omega)]; omega), hb4⟩
theorem toStore_any (v : Value) (x : StoreD) (w : World) (hf : x.Fit) (hr : StoreD.Reads w v x) :
    Calls Tryz.prog 7 #[v] w fun e w' => ∃ v', e = .returned v' ∧ StoreD.Own w' w.heap.size w'.heap.size v' x ∧ Below w.heap.size w w' := by
  obtain ⟨a0, c0, a1, c1, a2, c2, a4, c4, a6, c6, rfl, r0, r1, r2, r4, r6⟩ := hr
  go_enter Tryz.func7, Tryz.ntmps7
  go_wp2_with fail
  have hb0 : Below w.heap.size w (((w.alloc (.cells #[.slice a0 x.fRows.length c0, .slice a1 x.fSpace.fRefs.length c1, .slice a2 x.fSpace.fLast.length c2, .int .i64 x.fTxg, .slice a4 x.fGone.length c4, .int .i64 x.fKeep, .slice a6 x.fDead.length c6, .bool x.fSame] 28)).alloc (.cells #[.slice none 0 0, .slice none 0 0, .slice none 0 0, .int .i64 0, .slice none 0 0, .int .i64 0, .slice none 0 0, .bool false] 33)).alloc (.cells #[.slice none 0 0, .slice none 0 0, .slice none 0 0, .int .i64 0, .slice none 0 0, .int .i64 0, .slice none 0 0, .bool false] 33)) := (((Below.refl _ _).alloc (Nat.le_refl _) _).alloc (by simp) _).alloc (by simp; omega) _
  have hA0 : (((w.alloc (.cells #[.slice a0 x.fRows.length c0, .slice a1 x.fSpace.fRefs.length c1, .slice a2 x.fSpace.fLast.length c2, .int .i64 x.fTxg, .slice a4 x.fGone.length c4, .int .i64 x.fKeep, .slice a6 x.fDead.length c6, .bool x.fSame] 28)).alloc (.cells #[.slice none 0 0, .slice none 0 0, .slice none 0 0, .int .i64 0, .slice none 0 0, .int .i64 0, .slice none 0 0, .bool false] 33)).alloc (.cells #[.slice none 0 0, .slice none 0 0, .slice none 0 0, .int .i64 0, .slice none 0 0, .int .i64 0, .slice none 0 0, .bool false] 33)).heap[w.heap.size]? = some (.cells #[.slice a0 x.fRows.length c0, .slice a1 x.fSpace.fRefs.length c1, .slice a2 x.fSpace.fLast.length c2, .int .i64 x.fTxg, .slice a4 x.fGone.length c4, .int .i64 x.fKeep, .slice a6 x.fDead.length c6, .bool x.fSame] 28 (0, 0)) := blk_alloc (blk_alloc (blk_new w _ _ rfl) _) _
  have hR0 : (((w.alloc (.cells #[.slice a0 x.fRows.length c0, .slice a1 x.fSpace.fRefs.length c1, .slice a2 x.fSpace.fLast.length c2, .int .i64 x.fTxg, .slice a4 x.fGone.length c4, .int .i64 x.fKeep, .slice a6 x.fDead.length c6, .bool x.fSame] 28)).alloc (.cells #[.slice none 0 0, .slice none 0 0, .slice none 0 0, .int .i64 0, .slice none 0 0, .int .i64 0, .slice none 0 0, .bool false] 33)).alloc (.cells #[.slice none 0 0, .slice none 0 0, .slice none 0 0, .int .i64 0, .slice none 0 0, .int .i64 0, .slice none 0 0, .bool false] 33)).heap[w.heap.size + 1]? = some (.cells #[.slice none 0 0, .slice none 0 0, .slice none 0 0, .int .i64 0, .slice none 0 0, .int .i64 0, .slice none 0 0, .bool false] 33 (0, 0)) := blk_alloc (blk_new _ _ (w.heap.size + 1) (by simp)) _
  have hO0 : (((w.alloc (.cells #[.slice a0 x.fRows.length c0, .slice a1 x.fSpace.fRefs.length c1, .slice a2 x.fSpace.fLast.length c2, .int .i64 x.fTxg, .slice a4 x.fGone.length c4, .int .i64 x.fKeep, .slice a6 x.fDead.length c6, .bool x.fSame] 28)).alloc (.cells #[.slice none 0 0, .slice none 0 0, .slice none 0 0, .int .i64 0, .slice none 0 0, .int .i64 0, .slice none 0 0, .bool false] 33)).alloc (.cells #[.slice none 0 0, .slice none 0 0, .slice none 0 0, .int .i64 0, .slice none 0 0, .int .i64 0, .slice none 0 0, .bool false] 33)).heap[w.heap.size + 1 + 1]? = some (.cells #[.slice none 0 0, .slice none 0 0, .slice none 0 0, .int .i64 0, .slice none 0 0, .int .i64 0, .slice none 0 0, .bool false] 33 (0, 0)) := blk_new _ _ (w.heap.size + 1 + 1) (by simp)
  have hz0 : w.heap.size + 1 + 1 < (((w.alloc (.cells #[.slice a0 x.fRows.length c0, .slice a1 x.fSpace.fRefs.length c1, .slice a2 x.fSpace.fLast.length c2, .int .i64 x.fTxg, .slice a4 x.fGone.length c4, .int .i64 x.fKeep, .slice a6 x.fDead.length c6, .bool x.fSame] 28)).alloc (.cells #[.slice none 0 0, .slice none 0 0, .slice none 0 0, .int .i64 0, .slice none 0 0, .int .i64 0, .slice none 0 0, .bool false] 33)).alloc (.cells #[.slice none 0 0, .slice none 0 0, .slice none 0 0, .int .i64 0, .slice none 0 0, .int .i64 0, .slice none 0 0, .bool false] 33)).heap.size := blk_lt hO0
  refine (toStringS_any _ _ _ x.fRows _ hf.f0 (r0.below hb0)).mono ?_
  rintro e w1 ⟨rfl, on0, b1⟩
  have ro0 : RowO encS 1 9 w1 _ w1.heap.size _ x.fRows := RowO.mk on0 (fun g hg => (on0.lt g hg).2)
  try simp only [sz_alloc] at ro0
  try simp only [sz_set] at ro0
  clear on0
  have hbW := hb0
  have hb1 := hbW.trans (b1.mono hbW.size)
  have hA1 : w1.heap[w.heap.size]? = some (.cells #[.slice a0 x.fRows.length c0, .slice a1 x.fSpace.fRefs.length c1, .slice a2 x.fSpace.fLast.length c2, .int .i64 x.fTxg, .slice a4 x.fGone.length c4, .int .i64 x.fKeep, .slice a6 x.fDead.length c6, .bool x.fSame] 28 (0, 0)) := blk_below hA0 b1 (Nat.le_refl _)
  have hR1 : w1.heap[w.heap.size + 1]? = some (.cells #[.slice none 0 0, .slice none 0 0, .slice none 0 0, .int .i64 0, .slice none 0 0, .int .i64 0, .slice none 0 0, .bool false] 33 (0, 0)) := blk_below hR0 b1 (Nat.le_refl _)
  have hO1 : w1.heap[w.heap.size + 1 + 1]? = some (.cells #[.slice none 0 0, .slice none 0 0, .slice none 0 0, .int .i64 0, .slice none 0 0, .int .i64 0, .slice none 0 0, .bool false] 33 (0, 0)) := blk_below hO0 b1 (Nat.le_refl _)
  have hz1 : w.heap.size + 1 + 1 < w1.heap.size := blk_lt hO1
  have hs1 := b1.size
  try simp only [sz_alloc] at hs1
  try simp only [sz_set] at hs1
  clear b1 hbW hA0 hR0 hO0
  have pa1 : w1.cell? ⟨w.heap.size, 1, none⟩ = some (.slice a1 x.fSpace.fRefs.length c1) := blk_cell hA1 1
  have pa2 : w1.cell? ⟨w.heap.size, 2, none⟩ = some (.slice a2 x.fSpace.fLast.length c2) := blk_cell hA1 2
  have po0 : w1.cell? ⟨w.heap.size + 1 + 1, 0, none⟩ = some (.slice none 0 0) := blk_cell hO1 0
  have pf0 := blk_frozen hO1 0
  go_wp2_with fail
  refine (toSpace_any _ x.fSpace _ ⟨hf.f1, hf.f2⟩ ⟨_, _, _, _, rfl, r1.below (hb1.setCell (p := ⟨w.heap.size + 1 + 1, 0, none⟩) (by simp; try omega) (.slice (some ⟨w.heap.size + 1 + 1 + 1, 0, none⟩) x.fRows.length x.fRows.length)), r2.below (hb1.setCell (p := ⟨w.heap.size + 1 + 1, 0, none⟩) (by simp; try omega) (.slice (some ⟨w.heap.size + 1 + 1 + 1, 0, none⟩) x.fRows.length x.fRows.length))⟩).mono ?_
  rintro e w2 ⟨v2, rfl, ow2, b2⟩
  obtain ⟨x1, y1, x2, y2, rfl, ro1, ro2, ap1_2⟩ := ow2
  try simp only [sz_alloc, sz_set] at ro1 ro2
  have hbW := (hb1.setCell (p := ⟨w.heap.size + 1 + 1, 0, none⟩) (by simp; try omega) (.slice (some ⟨w.heap.size + 1 + 1 + 1, 0, none⟩) x.fRows.length x.fRows.length))
  have hb2 := hbW.trans (b2.mono hbW.size)
  have hA2 : w2.heap[w.heap.size]? = some (.cells #[.slice a0 x.fRows.length c0, .slice a1 x.fSpace.fRefs.length c1, .slice a2 x.fSpace.fLast.length c2, .int .i64 x.fTxg, .slice a4 x.fGone.length c4, .int .i64 x.fKeep, .slice a6 x.fDead.length c6, .bool x.fSame] 28 (0, 0)) := blk_below (blk_set_other hA1 (p := ⟨w.heap.size + 1 + 1, 0, none⟩) (by simp; try omega) _) b2 (Nat.le_refl _)
  have hR2 : w2.heap[w.heap.size + 1]? = some (.cells #[.slice none 0 0, .slice none 0 0, .slice none 0 0, .int .i64 0, .slice none 0 0, .int .i64 0, .slice none 0 0, .bool false] 33 (0, 0)) := blk_below (blk_set_other hR1 (p := ⟨w.heap.size + 1 + 1, 0, none⟩) (by simp; try omega) _) b2 (Nat.le_refl _)
  have hO2 : w2.heap[w.heap.size + 1 + 1]? = some (.cells #[.slice (some ⟨w.heap.size + 1 + 1 + 1, 0, none⟩) x.fRows.length x.fRows.length, .slice none 0 0, .slice none 0 0, .int .i64 0, .slice none 0 0, .int .i64 0, .slice none 0 0, .bool false] 33 (0, 0)) := blk_below (blk_set hO1 (i := 0) _) b2 (Nat.le_refl _)
  have hz2 : w.heap.size + 1 + 1 < w2.heap.size := blk_lt hO2
  have ro0 := RowO.below (ro0.set (p := ⟨w.heap.size + 1 + 1, 0, none⟩) (by simp; try omega) (.slice (some ⟨w.heap.size + 1 + 1 + 1, 0, none⟩) x.fRows.length x.fRows.length)) b2 (Nat.le_refl _)
  have hs2 := b2.size
  try simp only [sz_alloc] at hs2
  try simp only [sz_set] at hs2
  clear b2 hbW hA1 hR1 hO1
  clear pa1 pa2 po0 pf0
  have pa3 : w2.cell? ⟨w.heap.size, 3, none⟩ = some (.int .i64 x.fTxg) := blk_cell hA2 3
  have pa4 : w2.cell? ⟨w.heap.size, 4, none⟩ = some (.slice a4 x.fGone.length c4) := blk_cell hA2 4
  have po1 : w2.cell? ⟨w.heap.size + 1 + 1, 1, none⟩ = some (.slice none 0 0) := blk_cell hO2 1
  have pf1 := blk_frozen hO2 1
  have po2 : w2.cell? ⟨w.heap.size + 1 + 1, 2, none⟩ = some (.slice none 0 0) := blk_cell hO2 2
  have pf2 := blk_frozen hO2 2
  have po3 : w2.cell? ⟨w.heap.size + 1 + 1, 3, none⟩ = some (.int .i64 0) := blk_cell hO2 3
  have pf3 := blk_frozen hO2 3
  go_wp2_with fail
  refine (toPtrS_any _ _ _ x.fGone _ hf.f4 (r4.below (((hb2.setCell (p := ⟨w.heap.size + 1 + 1, 1, none⟩) (by simp; try omega) (.slice x1 x.fSpace.fRefs.length y1)).setCell (p := ⟨w.heap.size + 1 + 1, 2, none⟩) (by simp; try omega) (.slice x2 x.fSpace.fLast.length y2)).setCell (p := ⟨w.heap.size + 1 + 1, 3, none⟩) (by simp; try omega) (.int .i64 x.fTxg)))).mono ?_
  rintro e w3 ⟨rfl, on4, b3⟩
  have ro4 : RowO PtrD.cells 5 35 w3 _ w3.heap.size _ x.fGone := RowO.mk on4 (fun g hg => (on4.lt g hg).2)
  try simp only [sz_alloc] at ro4
  try simp only [sz_set] at ro4
  clear on4
  have hbW := (((hb2.setCell (p := ⟨w.heap.size + 1 + 1, 1, none⟩) (by simp; try omega) (.slice x1 x.fSpace.fRefs.length y1)).setCell (p := ⟨w.heap.size + 1 + 1, 2, none⟩) (by simp; try omega) (.slice x2 x.fSpace.fLast.length y2)).setCell (p := ⟨w.heap.size + 1 + 1, 3, none⟩) (by simp; try omega) (.int .i64 x.fTxg))
  have hb3 := hbW.trans (b3.mono hbW.size)
  have hA3 : w3.heap[w.heap.size]? = some (.cells #[.slice a0 x.fRows.length c0, .slice a1 x.fSpace.fRefs.length c1, .slice a2 x.fSpace.fLast.length c2, .int .i64 x.fTxg, .slice a4 x.fGone.length c4, .int .i64 x.fKeep, .slice a6 x.fDead.length c6, .bool x.fSame] 28 (0, 0)) := blk_below (blk_set_other (blk_set_other (blk_set_other hA2 (p := ⟨w.heap.size + 1 + 1, 1, none⟩) (by simp; try omega) _) (p := ⟨w.heap.size + 1 + 1, 2, none⟩) (by simp; try omega) _) (p := ⟨w.heap.size + 1 + 1, 3, none⟩) (by simp; try omega) _) b3 (Nat.le_refl _)
  have hR3 : w3.heap[w.heap.size + 1]? = some (.cells #[.slice none 0 0, .slice none 0 0, .slice none 0 0, .int .i64 0, .slice none 0 0, .int .i64 0, .slice none 0 0, .bool false] 33 (0, 0)) := blk_below (blk_set_other (blk_set_other (blk_set_other hR2 (p := ⟨w.heap.size + 1 + 1, 1, none⟩) (by simp; try omega) _) (p := ⟨w.heap.size + 1 + 1, 2, none⟩) (by simp; try omega) _) (p := ⟨w.heap.size + 1 + 1, 3, none⟩) (by simp; try omega) _) b3 (Nat.le_refl _)
  have hO3 : w3.heap[w.heap.size + 1 + 1]? = some (.cells #[.slice (some ⟨w.heap.size + 1 + 1 + 1, 0, none⟩) x.fRows.length x.fRows.length, .slice x1 x.fSpace.fRefs.length y1, .slice x2 x.fSpace.fLast.length y2, .int .i64 x.fTxg, .slice none 0 0, .int .i64 0, .slice none 0 0, .bool false] 33 (0, 0)) := blk_below (blk_set (blk_set (blk_set hO2 (i := 1) _) (i := 2) _) (i := 3) _) b3 (Nat.le_refl _)
  have hz3 : w.heap.size + 1 + 1 < w3.heap.size := blk_lt hO3
  have ro0 := RowO.below (((ro0.set (p := ⟨w.heap.size + 1 + 1, 1, none⟩) (by simp; try omega) (.slice x1 x.fSpace.fRefs.length y1)).set (p := ⟨w.heap.size + 1 + 1, 2, none⟩) (by simp; try omega) (.slice x2 x.fSpace.fLast.length y2)).set (p := ⟨w.heap.size + 1 + 1, 3, none⟩) (by simp; try omega) (.int .i64 x.fTxg)) b3 (Nat.le_refl _)
  have ro1 := RowO.below (((ro1.set (p := ⟨w.heap.size + 1 + 1, 1, none⟩) (by simp; try omega) (.slice x1 x.fSpace.fRefs.length y1)).set (p := ⟨w.heap.size + 1 + 1, 2, none⟩) (by simp; try omega) (.slice x2 x.fSpace.fLast.length y2)).set (p := ⟨w.heap.size + 1 + 1, 3, none⟩) (by simp; try omega) (.int .i64 x.fTxg)) b3 (Nat.le_refl _)
  have ro2 := RowO.below (((ro2.set (p := ⟨w.heap.size + 1 + 1, 1, none⟩) (by simp; try omega) (.slice x1 x.fSpace.fRefs.length y1)).set (p := ⟨w.heap.size + 1 + 1, 2, none⟩) (by simp; try omega) (.slice x2 x.fSpace.fLast.length y2)).set (p := ⟨w.heap.size + 1 + 1, 3, none⟩) (by simp; try omega) (.int .i64 x.fTxg)) b3 (Nat.le_refl _)
  have hs3 := b3.size
  try simp only [sz_alloc] at hs3
  try simp only [sz_set] at hs3
  clear b3 hbW hA2 hR2 hO2
  clear pa3 pa4 po1 pf1 po2 pf2 po3 pf3
  have pa5 : w3.cell? ⟨w.heap.size, 5, none⟩ = some (.int .i64 x.fKeep) := blk_cell hA3 5
  have pa6 : w3.cell? ⟨w.heap.size, 6, none⟩ = some (.slice a6 x.fDead.length c6) := blk_cell hA3 6
  have po4 : w3.cell? ⟨w.heap.size + 1 + 1, 4, none⟩ = some (.slice none 0 0) := blk_cell hO3 4
  have pf4 := blk_frozen hO3 4
  have po5 : w3.cell? ⟨w.heap.size + 1 + 1, 5, none⟩ = some (.int .i64 0) := blk_cell hO3 5
  have pf5 := blk_frozen hO3 5
  go_wp2_with fail
  refine (toPtrS_any _ _ _ x.fDead _ hf.f6 (r6.below ((hb3.setCell (p := ⟨w.heap.size + 1 + 1, 4, none⟩) (by simp; try omega) (.slice (some ⟨w2.heap.size, 0, none⟩) x.fGone.length x.fGone.length)).setCell (p := ⟨w.heap.size + 1 + 1, 5, none⟩) (by simp; try omega) (.int .i64 x.fKeep)))).mono ?_
  rintro e w4 ⟨rfl, on6, b4⟩
  have ro6 : RowO PtrD.cells 5 35 w4 _ w4.heap.size _ x.fDead := RowO.mk on6 (fun g hg => (on6.lt g hg).2)
  try simp only [sz_alloc] at ro6
  try simp only [sz_set] at ro6
  clear on6
  have hbW := ((hb3.setCell (p := ⟨w.heap.size + 1 + 1, 4, none⟩) (by simp; try omega) (.slice (some ⟨w2.heap.size, 0, none⟩) x.fGone.length x.fGone.length)).setCell (p := ⟨w.heap.size + 1 + 1, 5, none⟩) (by simp; try omega) (.int .i64 x.fKeep))
  have hb4 := hbW.trans (b4.mono hbW.size)
  have hA4 : w4.heap[w.heap.size]? = some (.cells #[.slice a0 x.fRows.length c0, .slice a1 x.fSpace.fRefs.length c1, .slice a2 x.fSpace.fLast.length c2, .int .i64 x.fTxg, .slice a4 x.fGone.length c4, .int .i64 x.fKeep, .slice a6 x.fDead.length c6, .bool x.fSame] 28 (0, 0)) := blk_below (blk_set_other (blk_set_other hA3 (p := ⟨w.heap.size + 1 + 1, 4, none⟩) (by simp; try omega) _) (p := ⟨w.heap.size + 1 + 1, 5, none⟩) (by simp; try omega) _) b4 (Nat.le_refl _)
  have hR4 : w4.heap[w.heap.size + 1]? = some (.cells #[.slice none 0 0, .slice none 0 0, .slice none 0 0, .int .i64 0, .slice none 0 0, .int .i64 0, .slice none 0 0, .bool false] 33 (0, 0)) := blk_below (blk_set_other (blk_set_other hR3 (p := ⟨w.heap.size + 1 + 1, 4, none⟩) (by simp; try omega) _) (p := ⟨w.heap.size + 1 + 1, 5, none⟩) (by simp; try omega) _) b4 (Nat.le_refl _)
  have hO4 : w4.heap[w.heap.size + 1 + 1]? = some (.cells #[.slice (some ⟨w.heap.size + 1 + 1 + 1, 0, none⟩) x.fRows.length x.fRows.length, .slice x1 x.fSpace.fRefs.length y1, .slice x2 x.fSpace.fLast.length y2, .int .i64 x.fTxg, .slice (some ⟨w2.heap.size, 0, none⟩) x.fGone.length x.fGone.length, .int .i64 x.fKeep, .slice none 0 0, .bool false] 33 (0, 0)) := blk_below (blk_set (blk_set hO3 (i := 4) _) (i := 5) _) b4 (Nat.le_refl _)
  have hz4 : w.heap.size + 1 + 1 < w4.heap.size := blk_lt hO4
  have ro0 := RowO.below ((ro0.set (p := ⟨w.heap.size + 1 + 1, 4, none⟩) (by simp; try omega) (.slice (some ⟨w2.heap.size, 0, none⟩) x.fGone.length x.fGone.length)).set (p := ⟨w.heap.size + 1 + 1, 5, none⟩) (by simp; try omega) (.int .i64 x.fKeep)) b4 (Nat.le_refl _)
  have ro1 := RowO.below ((ro1.set (p := ⟨w.heap.size + 1 + 1, 4, none⟩) (by simp; try omega) (.slice (some ⟨w2.heap.size, 0, none⟩) x.fGone.length x.fGone.length)).set (p := ⟨w.heap.size + 1 + 1, 5, none⟩) (by simp; try omega) (.int .i64 x.fKeep)) b4 (Nat.le_refl _)
  have ro2 := RowO.below ((ro2.set (p := ⟨w.heap.size + 1 + 1, 4, none⟩) (by simp; try omega) (.slice (some ⟨w2.heap.size, 0, none⟩) x.fGone.length x.fGone.length)).set (p := ⟨w.heap.size + 1 + 1, 5, none⟩) (by simp; try omega) (.int .i64 x.fKeep)) b4 (Nat.le_refl _)
  have ro4 := RowO.below ((ro4.set (p := ⟨w.heap.size + 1 + 1, 4, none⟩) (by simp; try omega) (.slice (some ⟨w2.heap.size, 0, none⟩) x.fGone.length x.fGone.length)).set (p := ⟨w.heap.size + 1 + 1, 5, none⟩) (by simp; try omega) (.int .i64 x.fKeep)) b4 (Nat.le_refl _)
  have hs4 := b4.size
  try simp only [sz_alloc] at hs4
  try simp only [sz_set] at hs4
  clear b4 hbW hA3 hR3 hO3
  clear pa5 pa6 po4 pf4 po5 pf5
  have pa7 : w4.cell? ⟨w.heap.size, 7, none⟩ = some (.bool x.fSame) := blk_cell hA4 7
  have po0 : w4.cell? ⟨w.heap.size + 1 + 1, 0, none⟩ = some (.slice (some ⟨w.heap.size + 1 + 1 + 1, 0, none⟩) x.fRows.length x.fRows.length) := blk_cell hO4 0
  have pf0 := blk_frozen hO4 0
  have po1 : w4.cell? ⟨w.heap.size + 1 + 1, 1, none⟩ = some (.slice x1 x.fSpace.fRefs.length y1) := blk_cell hO4 1
  have pf1 := blk_frozen hO4 1
  have po2 : w4.cell? ⟨w.heap.size + 1 + 1, 2, none⟩ = some (.slice x2 x.fSpace.fLast.length y2) := blk_cell hO4 2
  have pf2 := blk_frozen hO4 2
  have po3 : w4.cell? ⟨w.heap.size + 1 + 1, 3, none⟩ = some (.int .i64 x.fTxg) := blk_cell hO4 3
  have pf3 := blk_frozen hO4 3
  have po4 : w4.cell? ⟨w.heap.size + 1 + 1, 4, none⟩ = some (.slice (some ⟨w2.heap.size, 0, none⟩) x.fGone.length x.fGone.length) := blk_cell hO4 4
  have pf4 := blk_frozen hO4 4
  have po5 : w4.cell? ⟨w.heap.size + 1 + 1, 5, none⟩ = some (.int .i64 x.fKeep) := blk_cell hO4 5
  have pf5 := blk_frozen hO4 5
  have po6 : w4.cell? ⟨w.heap.size + 1 + 1, 6, none⟩ = some (.slice none 0 0) := blk_cell hO4 6
  have pf6 := blk_frozen hO4 6
  have po7 : w4.cell? ⟨w.heap.size + 1 + 1, 7, none⟩ = some (.bool false) := blk_cell hO4 7
  have pf7 := blk_frozen hO4 7
  have pr0 : w4.cell? ⟨w.heap.size + 1, 0, none⟩ = some (.slice none 0 0) := blk_cell hR4 0
  have pg0 := blk_frozen hR4 0
  have pr1 : w4.cell? ⟨w.heap.size + 1, 1, none⟩ = some (.slice none 0 0) := blk_cell hR4 1
  have pg1 := blk_frozen hR4 1
  have pr2 : w4.cell? ⟨w.heap.size + 1, 2, none⟩ = some (.slice none 0 0) := blk_cell hR4 2
  have pg2 := blk_frozen hR4 2
  have pr3 : w4.cell? ⟨w.heap.size + 1, 3, none⟩ = some (.int .i64 0) := blk_cell hR4 3
  have pg3 := blk_frozen hR4 3
  have pr4 : w4.cell? ⟨w.heap.size + 1, 4, none⟩ = some (.slice none 0 0) := blk_cell hR4 4
  have pg4 := blk_frozen hR4 4
  have pr5 : w4.cell? ⟨w.heap.size + 1, 5, none⟩ = some (.int .i64 0) := blk_cell hR4 5
  have pg5 := blk_frozen hR4 5
  have pr6 : w4.cell? ⟨w.heap.size + 1, 6, none⟩ = some (.slice none 0 0) := blk_cell hR4 6
  have pg6 := blk_frozen hR4 6
  have pr7 : w4.cell? ⟨w.heap.size + 1, 7, none⟩ = some (.bool false) := blk_cell hR4 7
  have pg7 := blk_frozen hR4 7
  go_wp2
  refine bodyPost_ret (v := .agg #[.slice (some ⟨w.heap.size + 1 + 1 + 1, 0, none⟩) x.fRows.length x.fRows.length, .slice x1 x.fSpace.fRefs.length y1, .slice x2 x.fSpace.fLast.length y2, .int .i64 x.fTxg, .slice (some ⟨w2.heap.size, 0, none⟩) x.fGone.length x.fGone.length, .int .i64 x.fKeep, .slice (some ⟨w3.heap.size, 0, none⟩) x.fDead.length x.fDead.length, .bool x.fSame]) (by simp [results, Tryz.results7, go_sem, pr0, pr1, pr2, pr3, pr4, pr5, pr6, pr7]) rfl ?_
  refine ⟨_, rfl, ⟨_, _, _, _, _, _, _, _, _, _, rfl, ?q0, ?q1, ?q2, ?q4, ?q6, ?q0_1, ?q0_2, ?q0_4, ?q0_6, ?q1_2, ?q1_4, ?q1_6, ?q2_4, ?q2_6, ?q4_6⟩, ?_⟩
  case q0 =>
    refine RowO.mono ((((((((((ro0.set ?_ _).set ?_ _).set ?_ _).set ?_ _).set ?_ _).set ?_ _).set ?_ _).set ?_ _).set ?_ _).set ?_ _) ?_ ?_
    all_goals (first | omega | (simp; done) | (simp; omega))
  case q1 =>
    refine RowO.mono ((((((((((ro1.set ?_ _).set ?_ _).set ?_ _).set ?_ _).set ?_ _).set ?_ _).set ?_ _).set ?_ _).set ?_ _).set ?_ _) ?_ ?_
    all_goals (first | omega | (simp; done) | (simp; omega))
  case q2 =>
    refine RowO.mono ((((((((((ro2.set ?_ _).set ?_ _).set ?_ _).set ?_ _).set ?_ _).set ?_ _).set ?_ _).set ?_ _).set ?_ _).set ?_ _) ?_ ?_
    all_goals (first | omega | (simp; done) | (simp; omega))
  case q4 =>
    refine RowO.mono ((((((((((ro4.set ?_ _).set ?_ _).set ?_ _).set ?_ _).set ?_ _).set ?_ _).set ?_ _).set ?_ _).set ?_ _).set ?_ _) ?_ ?_
    all_goals (first | omega | (simp; done) | (simp; omega))
  case q6 =>
    refine RowO.mono ((((((((((ro6.set ?_ _).set ?_ _).set ?_ _).set ?_ _).set ?_ _).set ?_ _).set ?_ _).set ?_ _).set ?_ _).set ?_ _) ?_ ?_
    all_goals (first | omega | (simp; done) | (simp; omega))
  case q0_1 => exact Apart.of_lt (m := w1.heap.size) (fun g hg => (ro0.lt g hg).2.1) (fun g hg => by have := (ro1.lt g hg).1; first | exact this | omega | (simp at this; omega))
  case q0_2 => exact Apart.of_lt (m := w1.heap.size) (fun g hg => (ro0.lt g hg).2.1) (fun g hg => by have := (ro2.lt g hg).1; first | exact this | omega | (simp at this; omega))
  case q0_4 => exact Apart.of_lt (m := w1.heap.size) (fun g hg => (ro0.lt g hg).2.1) (fun g hg => by have := (ro4.lt g hg).1; first | exact this | omega | (simp at this; omega))
  case q0_6 => exact Apart.of_lt (m := w1.heap.size) (fun g hg => (ro0.lt g hg).2.1) (fun g hg => by have := (ro6.lt g hg).1; first | exact this | omega | (simp at this; omega))
  case q1_2 => exact ap1_2
  case q1_4 => exact Apart.of_lt (m := w2.heap.size) (fun g hg => (ro1.lt g hg).2.1) (fun g hg => by have := (ro4.lt g hg).1; first | exact this | omega | (simp at this; omega))
  case q1_6 => exact Apart.of_lt (m := w2.heap.size) (fun g hg => (ro1.lt g hg).2.1) (fun g hg => by have := (ro6.lt g hg).1; first | exact this | omega | (simp at this; omega))
  case q2_4 => exact Apart.of_lt (m := w2.heap.size) (fun g hg => (ro2.lt g hg).2.1) (fun g hg => by have := (ro4.lt g hg).1; first | exact this | omega | (simp at this; omega))
  case q2_6 => exact Apart.of_lt (m := w2.heap.size) (fun g hg => (ro2.lt g hg).2.1) (fun g hg => by have := (ro6.lt g hg).1; first | exact this | omega | (simp at this; omega))
  case q4_6 => exact Apart.of_lt (m := w3.heap.size) (fun g hg => (ro4.lt g hg).2.1) (fun g hg => by have := (ro6.lt g hg).1; first | exact this | omega | (simp at this; omega))
  refine (Below.setCell (Below.setCell (Below.setCell (Below.setCell (Below.setCell (Below.setCell (Below.setCell (Below.setCell (Below.setCell (Below.setCell hb4 ?_ _) ?_ _) ?_ _) ?_ _) ?_ _) ?_ _) ?_ _) ?_ _) ?_ _) ?_ _)
  all_goals (first | omega | (simp; done) | (simp; omega))
theorem eqStore_yes (u v : Value) (x : StoreD) (w : World) (hf : x.Fit) (hr : StoreD.Reads w u x) (hs : StoreD.Reads w v x) :
    Calls Tryz.prog 9 #[u, v] w fun e w' => e = .returned (.bool true) ∧ Below w.heap.size w w' := by
  obtain ⟨a0, c0, a1, c1, a2, c2, a4, c4, a6, c6, rfl, r0, r1, r2, r4, r6⟩ := hr
  obtain ⟨b0, d0, b1, d1, b2, d2, b4, d4, b6, d6, rfl, s0, s1, s2, s4, s6⟩ := hs
  have hb0 : Below w.heap.size w ((w.alloc (.cells #[.slice a0 x.fRows.length c0, .slice a1 x.fSpace.fRefs.length c1, .slice a2 x.fSpace.fLast.length c2, .int .i64 x.fTxg, .slice a4 x.fGone.length c4, .int .i64 x.fKeep, .slice a6 x.fDead.length c6, .bool x.fSame] 33)).alloc (.cells #[.slice b0 x.fRows.length d0, .slice b1 x.fSpace.fRefs.length d1, .slice b2 x.fSpace.fLast.length d2, .int .i64 x.fTxg, .slice b4 x.fGone.length d4, .int .i64 x.fKeep, .slice b6 x.fDead.length d6, .bool x.fSame] 33)) := ((Below.refl _ _).alloc (Nat.le_refl _) _).alloc (by simp) _
  have hA0 : ((w.alloc (.cells #[.slice a0 x.fRows.length c0, .slice a1 x.fSpace.fRefs.length c1, .slice a2 x.fSpace.fLast.length c2, .int .i64 x.fTxg, .slice a4 x.fGone.length c4, .int .i64 x.fKeep, .slice a6 x.fDead.length c6, .bool x.fSame] 33)).alloc (.cells #[.slice b0 x.fRows.length d0, .slice b1 x.fSpace.fRefs.length d1, .slice b2 x.fSpace.fLast.length d2, .int .i64 x.fTxg, .slice b4 x.fGone.length d4, .int .i64 x.fKeep, .slice b6 x.fDead.length d6, .bool x.fSame] 33)).heap[w.heap.size]? = some (.cells #[.slice a0 x.fRows.length c0, .slice a1 x.fSpace.fRefs.length c1, .slice a2 x.fSpace.fLast.length c2, .int .i64 x.fTxg, .slice a4 x.fGone.length c4, .int .i64 x.fKeep, .slice a6 x.fDead.length c6, .bool x.fSame] 33 (0, 0)) := blk_alloc (blk_new w _ _ rfl) _
  have hB0 : ((w.alloc (.cells #[.slice a0 x.fRows.length c0, .slice a1 x.fSpace.fRefs.length c1, .slice a2 x.fSpace.fLast.length c2, .int .i64 x.fTxg, .slice a4 x.fGone.length c4, .int .i64 x.fKeep, .slice a6 x.fDead.length c6, .bool x.fSame] 33)).alloc (.cells #[.slice b0 x.fRows.length d0, .slice b1 x.fSpace.fRefs.length d1, .slice b2 x.fSpace.fLast.length d2, .int .i64 x.fTxg, .slice b4 x.fGone.length d4, .int .i64 x.fKeep, .slice b6 x.fDead.length d6, .bool x.fSame] 33)).heap[w.heap.size + 1]? = some (.cells #[.slice b0 x.fRows.length d0, .slice b1 x.fSpace.fRefs.length d1, .slice b2 x.fSpace.fLast.length d2, .int .i64 x.fTxg, .slice b4 x.fGone.length d4, .int .i64 x.fKeep, .slice b6 x.fDead.length d6, .bool x.fSame] 33 (0, 0)) := blk_new _ _ (w.heap.size + 1) (by simp)
  go_enter Tryz.func9, Tryz.ntmps9
  go_wp2_with fail
  refine (eqStringS_yes _ _ _ _ _ x.fRows _ hf.f0 (r0.below hb0) (s0.below hb0)).mono ?_
  rintro e w1 ⟨rfl, b1⟩
  have hb1 := hb0.trans (b1.mono hb0.size)
  have hA1 := blk_below hA0 b1 (Nat.le_refl _)
  have hB1 := blk_below hB0 b1 (Nat.le_refl _)
  clear b1 hA0 hB0
  have p1 : w1.cell? ⟨w.heap.size, 1, none⟩ = some (.slice a1 x.fSpace.fRefs.length c1) := blk_cell hA1 1
  have q1 : w1.cell? ⟨w.heap.size + 1, 1, none⟩ = some (.slice b1 x.fSpace.fRefs.length d1) := blk_cell hB1 1
  have p2 : w1.cell? ⟨w.heap.size, 2, none⟩ = some (.slice a2 x.fSpace.fLast.length c2) := blk_cell hA1 2
  have q2 : w1.cell? ⟨w.heap.size + 1, 2, none⟩ = some (.slice b2 x.fSpace.fLast.length d2) := blk_cell hB1 2
  go_wp2_with fail
  refine (eqSpace_yes _ _ x.fSpace _ ⟨hf.f1, hf.f2⟩ ⟨_, _, _, _, rfl, r1.below hb1, r2.below hb1⟩ ⟨_, _, _, _, rfl, s1.below hb1, s2.below hb1⟩).mono ?_
  rintro e w2 ⟨rfl, b2⟩
  have hb2 := hb1.trans (b2.mono hb1.size)
  have hA2 := blk_below hA1 b2 (Nat.le_refl _)
  have hB2 := blk_below hB1 b2 (Nat.le_refl _)
  clear b2 hA1 hB1
  clear p1 q1 p2 q2
  have p3 : w2.cell? ⟨w.heap.size, 3, none⟩ = some (.int .i64 x.fTxg) := blk_cell hA2 3
  have q3 : w2.cell? ⟨w.heap.size + 1, 3, none⟩ = some (.int .i64 x.fTxg) := blk_cell hB2 3
  have p4 : w2.cell? ⟨w.heap.size, 4, none⟩ = some (.slice a4 x.fGone.length c4) := blk_cell hA2 4
  have q4 : w2.cell? ⟨w.heap.size + 1, 4, none⟩ = some (.slice b4 x.fGone.length d4) := blk_cell hB2 4
  go_wp2_with fail
  refine (eqPtrS_yes _ _ _ _ _ x.fGone _ hf.f4 (r4.below hb2) (s4.below hb2)).mono ?_
  rintro e w3 ⟨rfl, b3⟩
  have hb3 := hb2.trans (b3.mono hb2.size)
  have hA3 := blk_below hA2 b3 (Nat.le_refl _)
  have hB3 := blk_below hB2 b3 (Nat.le_refl _)
  clear b3 hA2 hB2
  clear p3 q3 p4 q4
  have p5 : w3.cell? ⟨w.heap.size, 5, none⟩ = some (.int .i64 x.fKeep) := blk_cell hA3 5
  have q5 : w3.cell? ⟨w.heap.size + 1, 5, none⟩ = some (.int .i64 x.fKeep) := blk_cell hB3 5
  have p6 : w3.cell? ⟨w.heap.size, 6, none⟩ = some (.slice a6 x.fDead.length c6) := blk_cell hA3 6
  have q6 : w3.cell? ⟨w.heap.size + 1, 6, none⟩ = some (.slice b6 x.fDead.length d6) := blk_cell hB3 6
  go_wp2_with fail
  refine (eqPtrS_yes _ _ _ _ _ x.fDead _ hf.f6 (r6.below hb3) (s6.below hb3)).mono ?_
  rintro e w4 ⟨rfl, b4⟩
  have hb4 := hb3.trans (b4.mono hb3.size)
  have hA4 := blk_below hA3 b4 (Nat.le_refl _)
  have hB4 := blk_below hB3 b4 (Nat.le_refl _)
  clear b4 hA3 hB3
  clear p5 q5 p6 q6
  have p7 : w4.cell? ⟨w.heap.size, 7, none⟩ = some (.bool x.fSame) := blk_cell hA4 7
  have q7 : w4.cell? ⟨w.heap.size + 1, 7, none⟩ = some (.bool x.fSame) := blk_cell hB4 7
  go_wp2
  go_ret
  exact ⟨rfl, hb4⟩
open Go.RowKit
def cnt (ps : List PtrD) (i : Nat) : Nat := (ps.filter fun p => p.fAt == (i : Int)).length
theorem cnt_snoc (ps : List PtrD) (p : PtrD) (i : Nat) : cnt (ps ++ [p]) i = cnt ps i + if p.fAt = (i : Int) then 1 else 0 := by
  unfold cnt
  rw [List.filter_append, List.length_append]
  by_cases h : p.fAt = (i : Int) <;> simp [h]
theorem cnt_le (ps : List PtrD) (i : Nat) : cnt ps i ≤ ps.length := List.length_filter_le _ _
theorem cnt_append (a b : List PtrD) (i : Nat) : cnt (a ++ b) i = cnt a i + cnt b i := by simp [cnt, List.filter_append]
theorem cnt_take (ps : List PtrD) (k i : Nat) : cnt (ps.take k) i ≤ cnt ps i := by
  have h := cnt_append (ps.take k) (ps.drop k) i
  rw [List.take_append_drop] at h; omega
def cntCells (ps : List PtrD) : List Value := (List.range 64).map fun i => .int .i64 (cnt ps i : Nat)
theorem cntCells_len (ps : List PtrD) : (cntCells ps).length = 64 := by simp [cntCells]
theorem cntCells_get (ps : List PtrD) (i : Nat) (h : i < 64) : (cntCells ps)[i]? = some (.int .i64 (cnt ps i : Nat)) := by simp [cntCells, h]
theorem cntCells_snoc (ps : List PtrD) (p : PtrD) (a : Nat) (ha : p.fAt = (a : Int)) (h : a < 64) : (cntCells ps).set a (.int .i64 ((cnt ps a : Nat) + 1)) = cntCells (ps ++ [p]) := by
  apply List.ext_getElem?
  intro i
  by_cases hi : i < 64
  · rw [cntCells_get _ _ hi, cnt_snoc, List.getElem?_set]
    by_cases hai : a = i
    · subst hai
      simp [cntCells_len, h, ha]
    · rw [if_neg hai, cntCells_get _ _ hi, if_neg (by rw [ha]; omega)]
      simp
  · rw [List.getElem?_eq_none (by rw [List.length_set, cntCells_len]; omega), List.getElem?_eq_none (by rw [cntCells_len]; omega)]
def ptrIn (p : PtrD) (most : Int) : Bool := p.ok && (!p.hole && decide (p.fBirth ≤ most))
def rowSt (st : StoreD) (i : Nat) : Bool := decide ((st.fRows.getD i ByteArray.empty).size ≤ 128) && (((st.fRows.getD i ByteArray.empty).size == 0) == (st.fSpace.fRefs.getD i 0 == 0) && decide (st.fSpace.fLast.getD i 0 ≤ st.fTxg))
def rowsSt (st : StoreD) (k : Nat) : Bool := (List.range k).all fun i => rowSt st i
theorem rowsSt_succ (st : StoreD) (k : Nat) : rowsSt st (k + 1) = (rowsSt st k && rowSt st k) := by simp [rowsSt, List.range_succ]
theorem rowsSt_le {st : StoreD} {k m : Nat} (h : rowsSt st m = true) (hk : k < m) : rowSt st k = true := by
  simp only [rowsSt, List.all_eq_true] at h
  exact h k (List.mem_range.2 hk)
theorem rowsSt_bad {st : StoreD} {k m : Nat} (hk : k < m) (h : rowSt st k = false) : rowsSt st m = false := by
  cases hm : rowsSt st m with
  | false => rfl
  | true => rw [rowsSt_le hm hk] at h; cases h
def owedOk (refs : List Int) (ps : List PtrD) : Bool := (List.range 64).all fun i => decide ((cnt ps i : Int) ≤ refs.getD i 0)
def StoreD.ok (st : StoreD) : Bool :=
  st.fRows.length == 64 && (st.fSpace.ok && (inB st.fTxg 1 900 && (inB st.fKeep 0 (st.fTxg - 1) && (rowsSt st 64 &&
    (st.fGone.all (fun p => ptrIn p (st.fTxg - 1)) && (st.fDead.all (fun p => ptrIn p st.fKeep) && owedOk st.fSpace.fRefs (st.fGone ++ st.fDead)))))))
def outAt (st : StoreD) (j : Nat) : Option PtrD := (st.fGone ++ st.fDead)[j]?
def mostAt (st : StoreD) (j : Nat) : Int := if j < st.fGone.length then st.fTxg - 1 else st.fKeep
structure Given (st : StoreD) (j : Nat) : Prop where
  each : ∀ i p, i < j → outAt st i = some p → ptrIn p (mostAt st i) = true
  few : ∀ i, i < 64 → 0 < cnt ((st.fGone ++ st.fDead).take j) i → (cnt ((st.fGone ++ st.fDead).take j) i : Int) ≤ st.fSpace.fRefs.getD i 0
theorem Given.zero (st : StoreD) : Given st 0 := ⟨fun i p h => absurd h (Nat.not_lt_zero _), fun i hi h => by simp [cnt] at h⟩
theorem ptrIn_at {p : PtrD} {m : Int} (h : ptrIn p m = true) : 8 ≤ p.fAt ∧ p.fAt ≤ 63 ∧ p.fBirth ≤ m ∧ 1 ≤ p.fBirth ∧ p.fBirth ≤ 900 := by
  simp only [ptrIn, PtrD.ok, Bool.and_eq_true, Bool.or_eq_true, Bool.not_eq_true', decide_eq_true_eq] at h
  obtain ⟨h1, h2, h3⟩ := h
  rw [h2] at h1
  rcases h1 with h1 | h1
  · cases h1
  · obtain ⟨⟨⟨⟨a, b⟩, _⟩, _⟩, _⟩ := h1
    have := inB_true a
    have := inB_true b
    omega
theorem Given.succ {st : StoreD} {j : Nat} (h : Given st j) {p : PtrD} (hp : outAt st j = some p) (hin : ptrIn p (mostAt st j) = true) (a : Nat) (ha : p.fAt = (a : Int)) (hle : ((cnt ((st.fGone ++ st.fDead).take j) a + 1 : Nat) : Int) ≤ st.fSpace.fRefs.getD a 0) : Given st (j + 1) := by
  obtain ⟨hj, hpe⟩ := List.getElem?_eq_some_iff.1 hp
  have hs : (st.fGone ++ st.fDead).take (j + 1) = (st.fGone ++ st.fDead).take j ++ [p] := by rw [List.take_succ_eq_append_getElem hj, hpe]
  refine ⟨fun i q hi hq => ?_, fun i hi hc => ?_⟩
  · by_cases hij : i = j
    · subst hij
      obtain rfl := Option.some.inj (hp.symm.trans hq)
      exact hin
    · exact h.each i q (by omega) hq
  · rw [hs, cnt_snoc] at hc ⊢
    by_cases hai : p.fAt = (i : Int)
    · have : a = i := by omega
      subst this
      rw [if_pos hai]
      exact hle
    · rw [if_neg hai] at hc ⊢
      exact h.few i hi hc
theorem Given.all {st : StoreD} (h : Given st (st.fGone ++ st.fDead).length) (hr : ∀ i, i < 64 → 0 ≤ st.fSpace.fRefs.getD i 0) :
    (st.fGone.all (fun p => ptrIn p (st.fTxg - 1)) && (st.fDead.all (fun p => ptrIn p st.fKeep) && owedOk st.fSpace.fRefs (st.fGone ++ st.fDead))) = true := by
  rw [Bool.and_eq_true, Bool.and_eq_true]
  refine ⟨List.all_eq_true.2 fun p hp => ?_, List.all_eq_true.2 fun p hp => ?_, List.all_eq_true.2 fun i hi => ?_⟩
  · obtain ⟨i, hi, hpe⟩ := List.mem_iff_getElem.1 hp
    have := h.each i p (by rw [List.length_append]; omega) (by unfold outAt; rw [List.getElem?_append_left hi, List.getElem?_eq_getElem hi, hpe])
    rwa [mostAt, if_pos hi] at this
  · obtain ⟨i, hi, hpe⟩ := List.mem_iff_getElem.1 hp
    have := h.each (st.fGone.length + i) p (by rw [List.length_append]; omega) (by unfold outAt; rw [List.getElem?_append_right (by omega), Nat.add_sub_cancel_left, List.getElem?_eq_getElem hi, hpe])
    rwa [mostAt, if_neg (by omega)] at this
  · have hi' := List.mem_range.1 hi
    simp only [decide_eq_true_eq]
    by_cases hc : 0 < cnt (st.fGone ++ st.fDead) i
    · have := h.few i hi' (by rw [List.take_of_length_le (Nat.le_refl _)]; exact hc)
      rwa [List.take_of_length_le (Nat.le_refl _)] at this
    · have := hr i hi'
      omega
theorem given_bad {st : StoreD} {j : Nat} {p : PtrD} (hp : outAt st j = some p) (hin : ptrIn p (mostAt st j) = false) : st.ok = false := by
  obtain ⟨hj, hpe⟩ := List.getElem?_eq_some_iff.1 hp
  unfold StoreD.ok
  by_cases hg : j < st.fGone.length
  · have hm : p ∈ st.fGone := by rw [← hpe, List.getElem_append_left hg]; exact List.getElem_mem _
    have : st.fGone.all (fun p => ptrIn p (st.fTxg - 1)) = false := by
      rw [List.all_eq_false]
      exact ⟨p, hm, by rw [mostAt, if_pos hg] at hin; simp [hin]⟩
    simp [this]
  · have hlt : j - st.fGone.length < st.fDead.length := by rw [List.length_append] at hj; omega
    have hm : p ∈ st.fDead := by rw [← hpe, List.getElem_append_right (by omega)]; exact List.getElem_mem _
    have : st.fDead.all (fun p => ptrIn p st.fKeep) = false := by
      rw [List.all_eq_false]
      exact ⟨p, hm, by rw [mostAt, if_neg hg] at hin; simp [hin]⟩
    simp [this]
theorem given_many {st : StoreD} {j : Nat} {p : PtrD} (hp : outAt st j = some p) (a : Nat) (ha : p.fAt = (a : Int)) (h64 : a < 64) (hlt : st.fSpace.fRefs.getD a 0 < ((cnt ((st.fGone ++ st.fDead).take j) a + 1 : Nat) : Int)) : st.ok = false := by
  obtain ⟨hj, hpe⟩ := List.getElem?_eq_some_iff.1 hp
  have hs : (st.fGone ++ st.fDead).take (j + 1) = (st.fGone ++ st.fDead).take j ++ [p] := by rw [List.take_succ_eq_append_getElem hj, hpe]
  have h1 := cnt_take (st.fGone ++ st.fDead) (j + 1) a
  rw [hs, cnt_snoc, if_pos ha] at h1
  have : owedOk st.fSpace.fRefs (st.fGone ++ st.fDead) = false := by
    unfold owedOk
    rw [List.all_eq_false]
    exact ⟨a, List.mem_range.2 h64, by simp only [decide_eq_true_eq]; omega⟩
  unfold StoreD.ok
  simp [this]
structure OkSt (st : StoreD) : Prop where
  rows : st.fRows.length = 64
  space : st.fSpace.ok = true
  txg : 1 ≤ st.fTxg ∧ st.fTxg ≤ 900
  keep : 0 ≤ st.fKeep ∧ st.fKeep ≤ st.fTxg - 1
  each : rowsSt st 64 = true
  gone : st.fGone.all (fun p => ptrIn p (st.fTxg - 1)) = true
  dead : st.fDead.all (fun p => ptrIn p st.fKeep) = true
  owed : owedOk st.fSpace.fRefs (st.fGone ++ st.fDead) = true
theorem StoreD.ok_spec {st : StoreD} (h : st.ok = true) : OkSt st := by
  simp only [StoreD.ok, Bool.and_eq_true, beq_iff_eq] at h
  obtain ⟨h1, h2, h3, h4, h5, h6, h7, h8⟩ := h
  exact ⟨h1, h2, inB_true h3, inB_true h4, h5, h6, h7, h8⟩
structure OkSp (s : SpaceD) : Prop where
  refs : s.fRefs.length = 64
  last : s.fLast.length = 64
  each : ∀ i, i < 64 → 0 ≤ s.fRefs.getD i 0 ∧ s.fRefs.getD i 0 ≤ s.fLast.getD i 0 ∧ s.fLast.getD i 0 ≤ 900 ∧ (s.fRefs.getD i 0 = 0 → s.fLast.getD i 0 = 0) ∧ (i < 8 → s.fRefs.getD i 0 = 0)
theorem SpaceD.ok_spec {s : SpaceD} (h : s.ok = true) : OkSp s := by
  simp only [SpaceD.ok, Bool.and_eq_true, beq_iff_eq] at h
  obtain ⟨⟨h1, h2⟩, h3⟩ := h
  refine ⟨h1, h2, fun i hi => ?_⟩
  have h4 := rowsOk_le h3 hi
  rw [rowOkI_eq hi] at h4
  simp only [rowOkI, Bool.and_eq_true, Bool.or_eq_true, decide_eq_true_eq, bne_iff_ne, beq_iff_eq, Bool.not_eq_true', decide_eq_false_iff_not] at h4
  obtain ⟨h5, h6, h7, h8⟩ := h4
  have := inB_true h5
  have := inB_true h6
  refine ⟨by omega, by omega, by omega, fun h0 => ?_, fun h0 => ?_⟩
  · rcases h7 with h7 | h7
    · exact absurd h0 h7
    · exact h7
  · rcases h8 with h8 | h8
    · omega
    · omega
theorem cnt_start (ps : List PtrD) : (madeCells (Value.int .i64 0).cells (64 * 1)).toList = cntCells (ps.take 0) := by
  show (madeCells #[Value.int .i64 0] 64).toList = _
  rw [toList_madeCells_one]
  apply List.ext_getElem?
  intro i
  by_cases hi : i < 64
  · rw [cntCells_get _ _ hi, List.getElem?_replicate, if_pos hi]; simp [cnt]
  · rw [List.getElem?_eq_none (by rw [List.length_replicate]; omega), List.getElem?_eq_none (by rw [cntCells_len]; omega)]
end Go.Proofs.YtdlmlagcniifjaaGreatDoor
