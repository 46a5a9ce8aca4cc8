/- A part of the proof in YtigjfacaofgjjaaGreatDoorWrZ33. -/
import Derived.BigQuiet
import Derived.Deep.QuietTactic
import Derived.Deep.RegionWith
import Derived.StillTailTactics
import Derived.Test.YtigjfacaofgjjaaGreatDoorRows
import Derived.Test.YtigjfacaofgjjaaGreatDoorWrZ1
namespace Go.Proofs.YtigjfacaofgjjaaGreatDoor
set_option linter.unusedVariables false
set_option linter.unusedSimpArgs false
set_option maxHeartbeats 1000000
set_option maxRecDepth 100000
open Go.RowKit
structure PtrD where
  fAt : Int
  fBirth : Int
  fSize : Int
  fSum : Int
  fLevel : Int
abbrev pL (p : PtrD) : List Value := [.int .i64 p.fAt, .int .i64 p.fBirth, .int .i64 p.fSize, .int .i64 p.fSum, .int .i64 p.fLevel]
abbrev pV (p : PtrD) : Value := .agg #[.int .i64 p.fAt, .int .i64 p.fBirth, .int .i64 p.fSize, .int .i64 p.fSum, .int .i64 p.fLevel]
def PtrD.cells (x : PtrD) : List Value := [.int .i64 x.fAt, .int .i64 x.fBirth, .int .i64 x.fSize, .int .i64 x.fSum, .int .i64 x.fLevel]
theorem PtrD.cells_len (x : PtrD) : x.cells.length = 5 := rfl
theorem PtrD.at_ {w : World} {b o : Nat} {x : PtrD} (h : w.rangeAt b o x.cells) :
    w.cell? ⟨b, o, none⟩ = some (.int .i64 x.fAt) ∧ w.cell? ⟨b, o + 1, none⟩ = some (.int .i64 x.fBirth) ∧ w.cell? ⟨b, o + 2, none⟩ = some (.int .i64 x.fSize) ∧ w.cell? ⟨b, o + 3, none⟩ = some (.int .i64 x.fSum) ∧ w.cell? ⟨b, o + 4, none⟩ = some (.int .i64 x.fLevel) :=
  ⟨h 0 _ rfl, h 1 _ rfl, h 2 _ rfl, h 3 _ rfl, h 4 _ rfl⟩
theorem Ze1 (x : PtrD) (w : World) :
    Calls Tryz.prog 52 #[.agg #[.int .i64 x.fAt, .int .i64 x.fBirth, .int .i64 x.fSize, .int .i64 x.fSum, .int .i64 x.fLevel]] w fun e w' => e = .returned (.agg #[.int .i64 x.fAt, .int .i64 x.fBirth, .int .i64 x.fSize, .int .i64 x.fSum, .int .i64 x.fLevel]) ∧ Below w.heap.size w w' := by
  go_enter Tryz.func52, Tryz.ntmps52
  go_wp2
  refine bodyPost_ret (v := .agg #[.int .i64 x.fAt, .int .i64 x.fBirth, .int .i64 x.fSize, .int .i64 x.fSum, .int .i64 x.fLevel]) (by simp [results, Tryz.results52, go_sem]) rfl ⟨rfl, ?_⟩;exact (((Below.refl _ _).alloc (Nat.le_refl _) _).alloc (by simp) _).alloc (by simp; omega) _
theorem Zjp (x : PtrD) (w : World) :
    Calls Tryz.prog 77 #[.agg #[.int .i64 x.fAt, .int .i64 x.fBirth, .int .i64 x.fSize, .int .i64 x.fSum, .int .i64 x.fLevel], .agg #[.int .i64 x.fAt, .int .i64 x.fBirth, .int .i64 x.fSize, .int .i64 x.fSum, .int .i64 x.fLevel]] w fun e w' => e = .returned (.bool true) ∧ Below w.heap.size w w' := by
  go_enter Tryz.func77, Tryz.ntmps77
  go_wp2
  go_ret
  exact ⟨rfl, ((Below.refl _ _).alloc (Nat.le_refl _) _).alloc (by simp) _⟩
theorem Zdb (ao : Option Addr) (len cap : Nat) (l : Int) (w : World) (hl0 : 0 ≤ l) (hl1 : l ≤ 1048576) (hlen : len ≤ 9223372036854775807) :
    Calls Tryz.prog 46 #[.slice ao len cap, .int .i64 l] w fun e w' => e = .returned (.int .i64 (U6 l len)) ∧ Below w.heap.size w w' := by
  by_cases hln : l < len
  · have H := Lib.hid (Yw hln)
    go_enter Tryz.func46, Tryz.ntmps46
    go_wp2
    go_ret
    exact ⟨XC H.out.symm, Below.refl _ _⟩
  · have H := Lib.hid (YU (Int.not_lt.1 hln))
    go_enter Tryz.func46, Tryz.ntmps46
    go_wp2
    go_ret
    exact ⟨XC H.out.symm, Below.refl _ _⟩
theorem Tryz.infoPtrS : (Tryz.prog.info? 42).map (fun i => (i.zero, i.size, i.bytes)) = some (some (.agg #[.int .i64 0, .int .i64 0, .int .i64 0, .int .i64 0, .int .i64 0]), 5, 40) := by kernel_rfl
theorem Zdc (ao : Option Addr) (len cap : Nat) (xs : List PtrD) (w : World) (hlen : len ≤ 1048576) (hr : Rd PtrD.cells 5 w ao len xs) :
    Calls Tryz.prog 51 #[.slice ao len cap] w fun e w' => e = .returned (.slice (some ⟨w.heap.size, 0, none⟩) len len) ∧ w'.ownsRow w.heap.size 42 5 (.slice (some ⟨w.heap.size, 0, none⟩) len len) xs.length (xs.flatMap PtrD.cells) ∧ Below w.heap.size w w' := by
  obtain ⟨i0, hi, hz0, hz1, hz2⟩ := info_parts Tryz.infoPtrS
  go_enter Tryz.func51, Tryz.ntmps51
  go_wp2_with (refine wpList_make_full _ rfl (.tmp 6) (.tmp 6) 38 rfl w.heap.size 42 i0 _ 5 Tryz.underlying38 hi hz0 hz1 .i64 .i64 _ _ len rfl rfl rfl rfl ?b2 ?b3 ?b4 ?_)
  case b2 => rw [hz2]; omega
  case b3 => unfold maxLen; omega
  case b4 => exact Nat.le_refl _
  intro w1 hown hg;have hb0 : Below w.heap.size w w1 := (Below.refl _ _).grown hg (Nat.le_refl _) (by simp);have hs1 : w.heap.size + 1 ≤ w1.heap.size := (hown.lt w.heap.size (by simp [Value.ownBlock])).2;have hfill := QN.start (xs := xs) (enc := PtrD.cells) hown;clear hown
  go_wp2
  go_loopw [4] (fun i wr => ∃ k : Nat, k ≤ len ∧ i = .int .i64 k ∧ QN PtrD.cells 5 w.heap.size 42 wr w.heap.size len xs k ∧ Below w.heap.size w wr ∧ w.heap.size + 1 ≤ wr.heap.size) (fun i _ => len - (intOf i).toNat)
  case atStart => exact ⟨0, Nat.zero_le _, rfl, hfill, hb0, hs1⟩
  case round =>
    obtain ⟨k, hk, rfl, hf, hb, hsz⟩ := hrel
    by_cases hlt : k < len
    · have hkx : k < xs.length := by rw [hr.len]; exact hlt
      obtain ⟨b, off, x, hx0, rfl, hbl, hrg⟩ := hr.at_ k hkx;obtain ⟨c0, c1, c2, c3, c4⟩ := PtrD.at_ (Zu hrg hb hbl);have hx := Lib.hid hx0;clear hx0
      go_wp2_with fail
      refine (Ze1 x _).mono ?_;rintro e w2 ⟨rfl, hb2⟩;have hf2 := hf.below hb2 (Nat.le_refl _);have ht2 := QN.there PtrD.cells_len hf2 hr.len hlt;obtain ⟨hf3, hg3⟩ := QN.step PtrD.cells_len hf2 hr.len hx.out
      go_wp2_with (refine wpList_store_mid rfl 42 (.tmp 21) (.tmp 20) rfl w.heap.size (k * 5) _ rfl rfl ?c0 ?c1 ?c2 ?_)
      case c0 => exact ht2
      case c1 => kernel_rfl
      case c2 => simp [Value.oneCell']
      go_roundw
      case rel => exact ⟨k + 1, by omega, by go_num, hf3, (hb.trans (hb2.mono hb.size)).grown hg3 (by have := hb2.size; omega) (by intro j hj; cases hj; exact Nat.le_refl _), by have h3 := hg3.size; simp only [PtrD.cells] at h3; have := hb2.size; omega⟩
      case measure => simp [intOf]; omega
    · have hk' : k = len := by omega
      subst hk'
      go_wp2
      go_ret
      exact ⟨rfl, QN.done hf hr.len, hb⟩
theorem Zdd (ao bo : Option Addr) (len cap cap2 : Nat) (xs : List PtrD) (w : World) (hlen : len ≤ 1048576) (hr : Rd PtrD.cells 5 w ao len xs) (hr2 : Rd PtrD.cells 5 w bo len xs) :
    Calls Tryz.prog 59 #[.slice ao len cap, .slice bo len cap2] w fun e w' => e = .returned (.bool true) ∧ Below w.heap.size w w' := by
  go_enter Tryz.func59, Tryz.ntmps59
  go_wp2
  go_loopw [5] (fun i wr => ∃ k : Nat, k ≤ len ∧ i = .int .i64 k ∧ Below w.heap.size w wr) (fun i _ => len - (intOf i).toNat)
  case atStart => exact ⟨0, Nat.zero_le _, rfl, Below.refl _ _⟩
  case round =>
    obtain ⟨k, hk, rfl, hb⟩ := hrel
    by_cases hlt : k < len
    · have hkx : k < xs.length := by rw [hr.len]; exact hlt
      obtain ⟨b, off, x, hx0, rfl, hbl, hrg⟩ := hr.at_ k hkx;obtain ⟨c0, c1, c2, c3, c4⟩ := PtrD.at_ (Zu hrg hb hbl);obtain ⟨b2, off2, x2, hx2, rfl, hbl2, hrg2⟩ := hr2.at_ k hkx;obtain rfl : x = x2 := Option.some.inj (hx0.symm.trans hx2);obtain ⟨d0, d1, d2, d3, d4⟩ := PtrD.at_ (Zu hrg2 hb hbl2);clear hx0 hx2
      go_wp2_with fail
      go_still_tail 8, (by kernel_rfl)
      change wpList _ _ _ _ _ wr.drew
      have hb1 := hb.drew;have hsz := hb1.size;generalize wr.drew = w1 at hb1 hsz ⊢
      go_wp2_with fail
      refine (Zjp x _).mono ?_;rintro e w2 ⟨rfl, hb2⟩
      go_wp2
      go_roundw
      case rel => exact ⟨k + 1, by omega, by go_num, hb1.trans (hb2.mono hsz)⟩
      case measure => simp [intOf]; omega
    · go_wp2
      go_ret
      exact ⟨rfl, hb⟩
open Go.RowKit
def inB (n lo hi : Int) : Bool := decide (lo ≤ n) && decide (n ≤ hi)
theorem ZB {n lo hi : Int} (h : inB n lo hi = true) : lo ≤ n ∧ n ≤ hi := by simpa [inB] using h
theorem ZkA {n lo hi : Int} (h : lo ≤ n) (k : n ≤ hi) : inB n lo hi = true := by simp [inB, h, k]
theorem YA (a b c : Int) (w : World) :
    Calls Tryz.prog 82 #[.int .i64 a, .int .i64 b, .int .i64 c] w fun e w' => e = .returned (.bool (inB a b c)) ∧ w = w' := by
  by_cases h1 : b ≤ a
  · have H : Hid (inB a b c = decide (a ≤ c)) := by show _ = _; simp [inB, h1]
    go_enter Tryz.func82, Tryz.ntmps82
    go_wp2
    all_goals (go_ret; exact ⟨Zs H.out.symm, rfl⟩)
  · have H : Hid (inB a b c = false) := by show _ = _; simp [inB, h1]
    go_enter Tryz.func82, Tryz.ntmps82
    go_wp2
    all_goals (go_ret; exact ⟨Zs H.out.symm, rfl⟩)
theorem Z2 (a b c : Int) (w : World) :
    Calls Tryz.prog 86 #[.int .i64 a, .int .i64 b, .int .i64 c] w fun e w' => e = .returned (.bool (inB a b c)) ∧ w = w' := by
  by_cases h1 : b ≤ a
  · have H : Hid (inB a b c = decide (a ≤ c)) := by show _ = _; simp [inB, h1]
    go_enter Tryz.func86, Tryz.ntmps86
    go_wp2
    all_goals (go_ret; exact ⟨Zs H.out.symm, rfl⟩)
  · have H : Hid (inB a b c = false) := by show _ = _; simp [inB, h1]
    go_enter Tryz.func86, Tryz.ntmps86
    go_wp2
    all_goals (go_ret; exact ⟨Zs H.out.symm, rfl⟩)
theorem Qo (a : Int) (w : World) :
    Calls Tryz.prog 158 #[.int .i64 a] w fun e w' => e = .returned (.bool (inB a 8 63)) ∧ w = w' := by
  go_enter Tryz.func158, Tryz.ntmps158
  go_wp2_with fail
  refine (YA _ _ _ _).mono ?_;rintro e w' ⟨rfl, rfl⟩
  go_wp2
  go_ret
  exact ⟨rfl, rfl⟩
theorem Zjq (a : Int) (w : World) :
    Calls Tryz.prog 191 #[.int .i64 a] w fun e w' => e = .returned (.bool (inB a 8 63)) ∧ w = w' := by
  go_enter Tryz.func191, Tryz.ntmps191
  go_wp2_with fail
  refine (Z2 _ _ _ _).mono ?_;rintro e w' ⟨rfl, rfl⟩
  go_wp2
  go_ret
  exact ⟨rfl, rfl⟩
def PtrD.hole (p : PtrD) : Bool := p.fAt == 0 && p.fBirth == 0 && p.fSize == 0 && p.fSum == 0 && p.fLevel == 0
def PtrD.ok (p : PtrD) : Bool := p.hole || inB p.fAt 8 63 && inB p.fBirth 1 900 && inB p.fSize 1 128 && inB p.fSum 0 99460728 && inB p.fLevel 0 2
theorem Z0 (p : PtrD) (w : World) :
    Calls Tryz.prog 99 #[.agg #[.int .i64 p.fAt, .int .i64 p.fBirth, .int .i64 p.fSize, .int .i64 p.fSum, .int .i64 p.fLevel]] w fun e w' => e = .returned (.bool p.hole) ∧ Below w.heap.size w w' := by
  go_enter Tryz.func99, Tryz.ntmps99
  go_wp2
  all_goals
    go_ret
    refine ⟨Zs ?_, (Below.refl _ _).alloc (Nat.le_refl _) _⟩;unfold PtrD.hole;simp [*]
theorem Ys (p : PtrD) (w : World) :
    Calls Tryz.prog 143 #[.agg #[.int .i64 p.fAt, .int .i64 p.fBirth, .int .i64 p.fSize, .int .i64 p.fSum, .int .i64 p.fLevel]] w fun e w' => e = .returned (.bool p.hole) ∧ Below w.heap.size w w' := by
  go_enter Tryz.func143, Tryz.ntmps143
  go_wp2
  all_goals
    go_ret
    refine ⟨Zs ?_, (Below.refl _ _).alloc (Nat.le_refl _) _⟩;unfold PtrD.hole;simp [*]
theorem Z3 (p : PtrD) (w : World) :
    Calls Tryz.prog 98 #[.agg #[.int .i64 p.fAt, .int .i64 p.fBirth, .int .i64 p.fSize, .int .i64 p.fSum, .int .i64 p.fLevel]] w fun e w' => e = .returned (.bool p.ok) ∧ Below w.heap.size w w' := by
  go_enter Tryz.func98, Tryz.ntmps98
  go_wp2_with (first | (go_at_call 99; refine (Z0 p _).mono ?_; rintro e w1 ⟨rfl, hb1⟩; obtain ⟨hc1, _⟩ := Zng hb1) | (go_at_call 158; refine (Qo _ _).mono ?_; rintro e w' ⟨rfl, rfl⟩) | (go_at_call 82; refine (YA _ _ _ _).mono ?_; rintro e w' ⟨rfl, rfl⟩))
  all_goals
    go_ret
    refine ⟨Zs ?_, ((Below.refl _ _).alloc (Nat.le_refl _) _).trans (hb1.mono (by simp))⟩;unfold PtrD.ok;simp [*]
theorem Y6 (p : PtrD) (w : World) :
    Calls Tryz.prog 142 #[.agg #[.int .i64 p.fAt, .int .i64 p.fBirth, .int .i64 p.fSize, .int .i64 p.fSum, .int .i64 p.fLevel]] w fun e w' => e = .returned (.bool p.ok) ∧ Below w.heap.size w w' := by
  go_enter Tryz.func142, Tryz.ntmps142
  go_wp2_with (first | (go_at_call 143; refine (Ys p _).mono ?_; rintro e w1 ⟨rfl, hb1⟩; obtain ⟨hc1, _⟩ := Zng hb1) | (go_at_call 191; refine (Zjq _ _).mono ?_; rintro e w' ⟨rfl, rfl⟩) | (go_at_call 86; refine (Z2 _ _ _ _).mono ?_; rintro e w' ⟨rfl, rfl⟩))
  all_goals
    go_ret
    refine ⟨Zs ?_, ((Below.refl _ _).alloc (Nat.le_refl _) _).trans (hb1.mono (by simp))⟩;unfold PtrD.ok;simp [*]
open Go.RowKit
theorem Zde (ao : Option Addr) (len cap : Nat) (l : Int) (w : World) (hl0 : 0 ≤ l) (hl1 : l ≤ 1048576) (hlen : len ≤ 9223372036854775807) :
    Calls Tryz.prog 96 #[.slice ao len cap, .int .i64 l] w fun e w' => e = .returned (.int .i64 (U6 l len)) ∧ Below w.heap.size w w' := by
  by_cases hln : l < len
  · have H := Lib.hid (Yw hln)
    go_enter Tryz.func96, Tryz.ntmps96
    go_wp2
    go_ret
    exact ⟨XC H.out.symm, Below.refl _ _⟩
  · have H := Lib.hid (YU (Int.not_lt.1 hln))
    go_enter Tryz.func96, Tryz.ntmps96
    go_wp2
    go_ret
    exact ⟨XC H.out.symm, Below.refl _ _⟩
theorem Tryz.infoIntS : (Tryz.prog.info? 3).map (fun i => (i.zero, i.size, i.bytes)) = some (some (.int .i64 0), 1, 8) := by kernel_rfl
theorem Zdf (ao : Option Addr) (len cap : Nat) (xs : List Int) (w : World) (hlen : len ≤ 1048576) (hr : Rd Zz 1 w ao len xs) :
    Calls Tryz.prog 104 #[.slice ao len cap] w fun e w' => e = .returned (.slice (some ⟨w.heap.size, 0, none⟩) len len) ∧ w'.ownsRow w.heap.size 3 1 (.slice (some ⟨w.heap.size, 0, none⟩) len len) xs.length (xs.flatMap Zz) ∧ Below w.heap.size w w' := by
  obtain ⟨i0, hi, hz0, hz1, hz2⟩ := info_parts Tryz.infoIntS
  go_enter Tryz.func104, Tryz.ntmps104
  go_wp2_with (refine wpList_make_full _ rfl (.tmp 6) (.tmp 6) 23 rfl w.heap.size 3 i0 _ 1 Tryz.underlying23 hi hz0 hz1 .i64 .i64 _ _ len rfl rfl rfl rfl ?b2 ?b3 ?b4 ?_)
  case b2 => rw [hz2]; omega
  case b3 => unfold maxLen; omega
  case b4 => exact Nat.le_refl _
  intro w1 hown hg;have hb0 : Below w.heap.size w w1 := (Below.refl _ _).grown hg (Nat.le_refl _) (by simp);have hs1 : w.heap.size + 1 ≤ w1.heap.size := (hown.lt w.heap.size (by simp [Value.ownBlock])).2;have hfill := QN.start (xs := xs) (enc := Zz) hown;clear hown
  go_wp2
  go_loopw [4] (fun i wr => ∃ k : Nat, k ≤ len ∧ i = .int .i64 k ∧ QN Zz 1 w.heap.size 3 wr w.heap.size len xs k ∧ Below w.heap.size w wr ∧ w.heap.size + 1 ≤ wr.heap.size) (fun i _ => len - (intOf i).toNat)
  case atStart => exact ⟨0, Nat.zero_le _, rfl, hfill, hb0, hs1⟩
  case round =>
    obtain ⟨k, hk, rfl, hf, hb, hsz⟩ := hrel
    by_cases hlt : k < len
    · have hkx : k < xs.length := by rw [hr.len]; exact hlt
      obtain ⟨b, off, x, hx0, rfl, hbl, hrg⟩ := hr.at_ k hkx;have c0 := (Zu hrg hb hbl) 0 _ rfl; simp only [Nat.mul_one, Nat.add_zero] at c0;have hx := Lib.hid hx0;clear hx0;have ht2 := QN.there encI_len hf hr.len hlt;obtain ⟨u0, hu0⟩ := Option.isSome_iff_exists.1 (ht2 0 (by omega)).1;have hu1 := (ht2 0 (by omega)).2;simp only [Nat.mul_one, Nat.add_zero] at hu0 hu1;obtain ⟨hf3, hg3⟩ := QN.step encI_len hf hr.len hx.out;simp only [Nat.mul_one] at hf3 hg3;clear ht2
      go_wp2
      go_roundw
      case rel => exact ⟨k + 1, by omega, by go_num, hf3, hb.grown hg3 (by omega) (by intro j hj; cases hj; exact Nat.le_refl _), Nat.le_trans hsz hg3.size⟩
      case measure => simp [intOf]; omega
    · have hk' : k = len := by omega
      subst hk'
      go_wp2
      go_ret
      exact ⟨rfl, QN.done hf hr.len, hb⟩
theorem Zdg (ao bo : Option Addr) (len cap cap2 : Nat) (xs : List Int) (w : World) (hlen : len ≤ 1048576) (hr : Rd Zz 1 w ao len xs) (hr2 : Rd Zz 1 w bo len xs) :
    Calls Tryz.prog 108 #[.slice ao len cap, .slice bo len cap2] w fun e w' => e = .returned (.bool true) ∧ Below w.heap.size w w' := by
  go_enter Tryz.func108, Tryz.ntmps108
  go_wp2
  go_loopw [5] (fun i wr => ∃ k : Nat, k ≤ len ∧ i = .int .i64 k ∧ Below w.heap.size w wr) (fun i _ => len - (intOf i).toNat)
  case atStart => exact ⟨0, Nat.zero_le _, rfl, Below.refl _ _⟩
  case round =>
    obtain ⟨k, hk, rfl, hb⟩ := hrel
    by_cases hlt : k < len
    · have hkx : k < xs.length := by rw [hr.len]; exact hlt
      obtain ⟨b, off, x, hx0, rfl, hbl, hrg⟩ := hr.at_ k hkx;have c0 := (Zu hrg hb hbl) 0 _ rfl; simp only [Nat.mul_one, Nat.add_zero] at c0;obtain ⟨b2, off2, x2, hx2, rfl, hbl2, hrg2⟩ := hr2.at_ k hkx;obtain rfl : x = x2 := Option.some.inj (hx0.symm.trans hx2);have d0 := (Zu hrg2 hb hbl2) 0 _ rfl; simp only [Nat.mul_one, Nat.add_zero] at d0;clear hx0 hx2
      go_wp2_with fail
      go_quiet (fail)
      go_wp2
      go_roundw
      case rel => exact ⟨k + 1, by omega, by go_num, hb.trans (ZM _ _ _)⟩
      case measure => simp [intOf]; omega
    · go_wp2
      go_ret
      exact ⟨rfl, hb⟩
theorem ZeH (ao : Option Addr) (len cap : Nat) (xs : List ByteArray) (l : Int) (w : World) (hl0 : 0 ≤ l) (hl1 : l ≤ 1048576) (hlen : len ≤ 9223372036854775807) (hr : Rd Zl 1 w ao len xs) (hs : ∀ x ∈ xs, x.size ≤ 9223372036854775807) :
    Calls Tryz.prog 44 #[.slice ao len cap, .int .i64 l] w fun e w' => e = .returned (.int .i64 (U6 l (len + tot ByteArray.size xs))) ∧ Below w.heap.size w w' := by
  by_cases hln : l < len
  · rw [Yw (by omega)]
    go_enter Tryz.func44, Tryz.ntmps44
    go_wp2
    go_ret
    exact ⟨rfl, Below.refl _ _⟩
  · go_enter Tryz.func44, Tryz.ntmps44
    go_wp2
    go_loopw [1,5] (fun l' i wr => ∃ k : Nat, k ≤ len ∧ i = .int .i64 k ∧ (len + tot ByteArray.size (xs.take k) : Nat) ≤ l ∧ l' = .int .i64 (l - (len + tot ByteArray.size (xs.take k) : Nat)) ∧ Below w.heap.size w wr) (fun _ i _ => len - (intOf i).toNat)
    case atStart => exact ⟨0, Nat.zero_le _, rfl, by simp [tot]; omega, by simp [tot], Below.refl _ _⟩
    case round =>
      obtain ⟨k, hk, rfl, hle, rfl, hb⟩ := hrel
      by_cases hlt : k < len
      · have hkx : k < xs.length := by rw [hr.len]; exact hlt
        obtain ⟨b, off, x, hx0, rfl, hbl, hrg⟩ := hr.at_ k hkx;have c0 := (Zu hrg hb hbl) 0 _ rfl; simp only [Nat.mul_one, Nat.add_zero] at c0;have hsk0 := hs _ (List.mem_of_getElem? hx0);have H1 := Lib.hid (Zky ByteArray.size xs k hx0);clear hx0;have hle2 := Zgy ByteArray.size xs (k + 1)
        by_cases hc : l - (len + tot ByteArray.size (xs.take k) : Nat) < (x.size : Nat)
        · go_wp2
          go_ret
          exact ⟨XC (by rw [Yw (by have := H1.out; omega)]), hb⟩
        · go_wp2
          go_roundw
          case rel => exact ⟨k + 1, by omega, by go_num, by rw [H1.out]; omega, by rw [H1.out]; congr 1; omega, hb⟩
          case measure => simp [intOf]; omega
      · have hk' : k = len := by omega
        subst hk';have ht := Lib.hid (List.take_of_length_le (l := xs) (i := k) (by rw [hr.len]; exact Nat.le_refl _));rw [ht.out] at hle
        go_wp2
        go_ret
        rw [ht.out];exact ⟨XC (by rw [YU hle]), hb⟩
theorem Tryz.infoStringS : (Tryz.prog.info? 9).map (fun i => (i.zero, i.size, i.bytes)) = some (some (.string ByteArray.empty), 1, 16) := by kernel_rfl
theorem ZeI (ao : Option Addr) (len cap : Nat) (xs : List ByteArray) (w : World) (hlen : len ≤ 1048576) (hr : Rd Zl 1 w ao len xs) :
    Calls Tryz.prog 49 #[.slice ao len cap] w fun e w' => e = .returned (.slice (some ⟨w.heap.size, 0, none⟩) len len) ∧ w'.ownsRow w.heap.size 9 1 (.slice (some ⟨w.heap.size, 0, none⟩) len len) xs.length (xs.flatMap Zl) ∧ Below w.heap.size w w' := by
  obtain ⟨i0, hi, hz0, hz1, hz2⟩ := info_parts Tryz.infoStringS
  go_enter Tryz.func49, Tryz.ntmps49
  go_wp2_with (refine wpList_make_full _ rfl (.tmp 6) (.tmp 6) 22 rfl w.heap.size 9 i0 _ 1 Tryz.underlying22 hi hz0 hz1 .i64 .i64 _ _ len rfl rfl rfl rfl ?b2 ?b3 ?b4 ?_)
  case b2 => rw [hz2]; omega
  case b3 => unfold maxLen; omega
  case b4 => exact Nat.le_refl _
  intro w1 hown hg;have hb0 : Below w.heap.size w w1 := (Below.refl _ _).grown hg (Nat.le_refl _) (by simp);have hs1 : w.heap.size + 1 ≤ w1.heap.size := (hown.lt w.heap.size (by simp [Value.ownBlock])).2;have hfill := QN.start (xs := xs) (enc := Zl) hown;clear hown
  go_wp2
  go_loopw [4] (fun i wr => ∃ k : Nat, k ≤ len ∧ i = .int .i64 k ∧ QN Zl 1 w.heap.size 9 wr w.heap.size len xs k ∧ Below w.heap.size w wr ∧ w.heap.size + 1 ≤ wr.heap.size) (fun i _ => len - (intOf i).toNat)
  case atStart => exact ⟨0, Nat.zero_le _, rfl, hfill, hb0, hs1⟩
  case round =>
    obtain ⟨k, hk, rfl, hf, hb, hsz⟩ := hrel
    by_cases hlt : k < len
    · have hkx : k < xs.length := by rw [hr.len]; exact hlt
      obtain ⟨b, off, x, hx0, rfl, hbl, hrg⟩ := hr.at_ k hkx;have c0 := (Zu hrg hb hbl) 0 _ rfl; simp only [Nat.mul_one, Nat.add_zero] at c0;have hx := Lib.hid hx0;clear hx0;have ht2 := QN.there encS_len hf hr.len hlt;obtain ⟨u0, hu0⟩ := Option.isSome_iff_exists.1 (ht2 0 (by omega)).1;have hu1 := (ht2 0 (by omega)).2;simp only [Nat.mul_one, Nat.add_zero] at hu0 hu1;obtain ⟨hf3, hg3⟩ := QN.step encS_len hf hr.len hx.out;simp only [Nat.mul_one] at hf3 hg3;clear ht2
      go_wp2
      go_roundw
      case rel => exact ⟨k + 1, by omega, by go_num, hf3, hb.grown hg3 (by omega) (by intro j hj; cases hj; exact Nat.le_refl _), Nat.le_trans hsz hg3.size⟩
      case measure => simp [intOf]; omega
    · have hk' : k = len := by omega
      subst hk'
      go_wp2
      go_ret
      exact ⟨rfl, QN.done hf hr.len, hb⟩
theorem ZeJ (ao bo : Option Addr) (len cap cap2 : Nat) (xs : List ByteArray) (w : World) (hlen : len ≤ 1048576) (hr : Rd Zl 1 w ao len xs) (hr2 : Rd Zl 1 w bo len xs) :
    Calls Tryz.prog 57 #[.slice ao len cap, .slice bo len cap2] w fun e w' => e = .returned (.bool true) ∧ Below w.heap.size w w' := by
  go_enter Tryz.func57, Tryz.ntmps57
  go_wp2
  go_loopw [5] (fun i wr => ∃ k : Nat, k ≤ len ∧ i = .int .i64 k ∧ Below w.heap.size w wr) (fun i _ => len - (intOf i).toNat)
  case atStart => exact ⟨0, Nat.zero_le _, rfl, Below.refl _ _⟩
  case round =>
    obtain ⟨k, hk, rfl, hb⟩ := hrel
    by_cases hlt : k < len
    · have hkx : k < xs.length := by rw [hr.len]; exact hlt
      obtain ⟨b, off, x, hx0, rfl, hbl, hrg⟩ := hr.at_ k hkx;have c0 := (Zu hrg hb hbl) 0 _ rfl; simp only [Nat.mul_one, Nat.add_zero] at c0;obtain ⟨b2, off2, x2, hx2, rfl, hbl2, hrg2⟩ := hr2.at_ k hkx;obtain rfl : x = x2 := Option.some.inj (hx0.symm.trans hx2);have d0 := (Zu hrg2 hb hbl2) 0 _ rfl; simp only [Nat.mul_one, Nat.add_zero] at d0;clear hx0 hx2
      go_wp2_with fail
      go_quiet (fail)
      go_wp2
      go_roundw
      case rel => exact ⟨k + 1, by omega, by go_num, hb.trans (ZM _ _ _)⟩
      case measure => simp [intOf]; omega
    · go_wp2
      go_ret
      exact ⟨rfl, hb⟩
open Go.RowKit
structure Zt where
  fRefs : List Int
  fLast : List Int
def Zt.Reads (w : World) (v : Value) (x : Zt) : Prop := ∃ (a0 : Option Addr) (c0 : Nat) (a1 : Option Addr) (c1 : Nat), v = .agg #[.slice a0 x.fRefs.length c0, .slice a1 x.fLast.length c1] ∧ Rd Zz 1 w a0 x.fRefs.length x.fRefs ∧ Rd Zz 1 w a1 x.fLast.length x.fLast
def Zt.Own (w : World) (B B1 : Nat) (v : Value) (x : Zt) : Prop := ∃ (a0 : Option Addr) (c0 : Nat) (a1 : Option Addr) (c1 : Nat), v = .agg #[.slice a0 x.fRefs.length c0, .slice a1 x.fLast.length c1] ∧ RowO Zz 1 3 w B B1 (.slice a0 x.fRefs.length c0) x.fRefs ∧ RowO Zz 1 3 w B B1 (.slice a1 x.fLast.length c1) x.fLast ∧ Z9 (.slice a0 x.fRefs.length c0) (.slice a1 x.fLast.length c1)
theorem Zt.Reads.below {w w' : World} {v : Value} {x : Zt} (h : Zt.Reads w v x) (hb : Below w.heap.size w w') : Zt.Reads w' v x := by
  obtain ⟨a0, c0, a1, c1, rfl, r0, r1⟩ := h;exact ⟨a0, c0, a1, c1, rfl, r0.below hb, r1.below hb⟩
theorem Zt.Own.rd {w : World} {B B1 : Nat} {v : Value} {x : Zt} (h : Zt.Own w B B1 v x) : Zt.Reads w v x := by
  obtain ⟨a0, c0, a1, c1, rfl, r0, r1, p0_1⟩ := h;obtain ⟨u0, e0, k0, d0⟩ := r0.rd encI_len;simp only [Value.slice.injEq, true_and] at k0;obtain ⟨rfl, rfl⟩ := k0;obtain ⟨u1, e1, k1, d1⟩ := r1.rd encI_len;simp only [Value.slice.injEq, true_and] at k1;obtain ⟨rfl, rfl⟩ := k1;exact ⟨_, _, _, _, rfl, d0, d1⟩
theorem Zt.Own.below {w : World} {B B1 : Nat} {v : Value} {x : Zt} (h : Zt.Own w B B1 v x) {w' : World} {C : Nat} (hb : Below C w w') (hC : w.heap.size ≤ C) : Zt.Own w' B B1 v x := by
  obtain ⟨a0, c0, a1, c1, rfl, r0, r1, p0_1⟩ := h;exact ⟨a0, c0, a1, c1, rfl, r0.below hb hC, r1.below hb hC, p0_1⟩
theorem Zt.Own.mono {w : World} {B B1 : Nat} {v : Value} {x : Zt} (h : Zt.Own w B B1 v x) {B' B1' : Nat} (hB : B' ≤ B) (hB1 : B1 ≤ B1') : Zt.Own w B' B1' v x := by
  obtain ⟨a0, c0, a1, c1, rfl, r0, r1, p0_1⟩ := h;exact ⟨a0, c0, a1, c1, rfl, r0.mono hB hB1, r1.mono hB hB1, p0_1⟩
theorem Zt.Own.outside {w : World} {B B1 : Nat} {v : Value} {x : Zt} (h : Zt.Own w B B1 v x) {w' : World} {C C1 : Nat} (ho : ZK C C1 w w') (hap : B1 ≤ C ∨ C1 ≤ B) : Zt.Own w' B B1 v x := by
  obtain ⟨a0, c0, a1, c1, rfl, r0, r1, p0_1⟩ := h;exact ⟨a0, c0, a1, c1, rfl, r0.outside ho hap, r1.outside ho hap, p0_1⟩
theorem Zt.Own.set {w : World} {B B1 : Nat} {v : Value} {x : Zt} (h : Zt.Own w B B1 v x) {p : Addr} (hp : p.block < B) (u : Value) : Zt.Own (w.setCell p u) B B1 v x := by
  obtain ⟨a0, c0, a1, c1, rfl, r0, r1, p0_1⟩ := h;exact ⟨a0, c0, a1, c1, rfl, r0.set hp u, r1.set hp u, p0_1⟩
def Zt.bulk (x : Zt) : Nat := x.fRefs.length + x.fLast.length
structure Zt.Small (x : Zt) : Prop where
  s0_0 : x.fRefs.length ≤ 9223372036854775807
  s1_0 : x.fLast.length ≤ 9223372036854775807
structure Zt.Fit (x : Zt) : Prop where
  f0 : x.fRefs.length ≤ 1048576
  f1 : x.fLast.length ≤ 1048576
theorem Zt.fit {x : Zt} (h : x.bulk ≤ 1048576) : x.Fit := by
  unfold Zt.bulk at h;exact ⟨by omega, by omega⟩
theorem ZgB (v : Value) (x : Zt) (l : Int) (w : World) (hl0 : 0 ≤ l) (hl1 : l ≤ 1048576) (hr : Zt.Reads w v x) (hs : x.Small) :
    Calls Tryz.prog 45 #[v, .int .i64 l] w fun e w' => e = .returned (.int .i64 (U6 l x.bulk)) ∧ Below w.heap.size w w' := by
  obtain ⟨a0, c0, a1, c1, rfl, r0, r1⟩ := hr;have hbA : Below w.heap.size w (w.alloc (.cells #[.slice a0 x.fRefs.length c0, .slice a1 x.fLast.length c1] 25)) := (Below.refl _ _).alloc (Nat.le_refl _) _;have hA0 := ZZ w (.cells #[.slice a0 x.fRefs.length c0, .slice a1 x.fLast.length c1] 25) _ rfl;obtain ⟨t0, ht0⟩ : ∃ t : Nat, t = x.fRefs.length := ⟨_, rfl⟩;obtain ⟨t1, ht1⟩ : ∃ t : Nat, t = x.fLast.length := ⟨_, rfl⟩;have HB : Hid (x.bulk = t0 + t1) := by
    show x.bulk = _;simp only [ht0, ht1];unfold Zt.bulk
    omega
  have HT0 := Lib.hid ht0;clear ht0;have HT1 := Lib.hid ht1;clear ht1
  go_enter Tryz.func45, Tryz.ntmps45
  go_wp2_with fail
  refine (Zde _ _ _ _ _ (by omega) (by omega) hs.s0_0).mono ?_;rintro e w1 ⟨rfl, b1⟩;rw [← HT0.out];have hA1 := Zq hA0 b1 (Nat.le_refl _);have hb1 := hbA.trans (b1.mono hbA.size);clear b1 hA0
  by_cases g0 : l < (t0 : Int)
  · rw [Yw g0]
    go_wp2
    go_ret
    exact ⟨XC (by rw [HB.out, Yw (by omega)]), hb1⟩
  rw [YU (Int.not_lt.1 g0)];have p1 : w1.cell? ⟨w.heap.size, 1, none⟩ = some (.slice a1 x.fLast.length c1) := Zf hA1 1
  go_wp2_with fail
  refine (Zde _ _ _ _ _ (by omega) (by omega) hs.s1_0).mono ?_;rintro e w2 ⟨rfl, b2⟩;rw [← HT1.out];have hA2 := Zq hA1 b2 (Nat.le_refl _);have hb2 := hb1.trans (b2.mono hb1.size);clear b2 hA1
  by_cases g1 : l - t0 < (t1 : Int)
  · rw [Yw g1]
    go_wp2
    go_ret
    exact ⟨XC (by rw [HB.out, Yw (by omega)]), hb2⟩
  rw [YU (Int.not_lt.1 g1)]
  go_wp2
  go_ret
  exact ⟨XC (by rw [HB.out, YU (by omega)]; omega), hb2⟩
theorem ZgC (v : Value) (x : Zt) (w : World) (hf : x.Fit) (hr : Zt.Reads w v x) :
    Calls Tryz.prog 50 #[v] w fun e w' => ∃ v', e = .returned v' ∧ Zt.Own w' w.heap.size w'.heap.size v' x ∧ Below w.heap.size w w' := by
  obtain ⟨a0, c0, a1, c1, rfl, r0, r1⟩ := hr
  go_enter Tryz.func50, Tryz.ntmps50
  go_wp2_with fail
  have hb0 : Below w.heap.size w (((w.alloc (.cells #[.slice a0 x.fRefs.length c0, .slice a1 x.fLast.length c1] 25)).alloc (.cells #[.slice none 0 0, .slice none 0 0] 37)).alloc (.cells #[.slice none 0 0, .slice none 0 0] 37)) := (((Below.refl _ _).alloc (Nat.le_refl _) _).alloc (by simp) _).alloc (by simp; omega) _;have hA0 : (((w.alloc (.cells #[.slice a0 x.fRefs.length c0, .slice a1 x.fLast.length c1] 25)).alloc (.cells #[.slice none 0 0, .slice none 0 0] 37)).alloc (.cells #[.slice none 0 0, .slice none 0 0] 37)).heap[w.heap.size]? = some (.cells #[.slice a0 x.fRefs.length c0, .slice a1 x.fLast.length c1] 25 (0, 0)) := YT (YT (ZZ w _ _ rfl) _) _;have hR0 : (((w.alloc (.cells #[.slice a0 x.fRefs.length c0, .slice a1 x.fLast.length c1] 25)).alloc (.cells #[.slice none 0 0, .slice none 0 0] 37)).alloc (.cells #[.slice none 0 0, .slice none 0 0] 37)).heap[w.heap.size + 1]? = some (.cells #[.slice none 0 0, .slice none 0 0] 37 (0, 0)) := YT (ZZ _ _ (w.heap.size + 1) (by simp)) _;have hO0 : (((w.alloc (.cells #[.slice a0 x.fRefs.length c0, .slice a1 x.fLast.length c1] 25)).alloc (.cells #[.slice none 0 0, .slice none 0 0] 37)).alloc (.cells #[.slice none 0 0, .slice none 0 0] 37)).heap[w.heap.size + 1 + 1]? = some (.cells #[.slice none 0 0, .slice none 0 0] 37 (0, 0)) := ZZ _ _ (w.heap.size + 1 + 1) (by simp);have hz0 : w.heap.size + 1 + 1 < (((w.alloc (.cells #[.slice a0 x.fRefs.length c0, .slice a1 x.fLast.length c1] 25)).alloc (.cells #[.slice none 0 0, .slice none 0 0] 37)).alloc (.cells #[.slice none 0 0, .slice none 0 0] 37)).heap.size := YI hO0;refine (Zdf _ _ _ x.fRefs _ hf.f0 (r0.below hb0)).mono ?_;rintro e w1 ⟨rfl, on0, b1⟩;have ro0 : RowO Zz 1 3 w1 _ w1.heap.size _ x.fRefs := RowO.mk on0 (fun g hg => (on0.lt g hg).2)
  try simp only [Y3] at ro0
  try simp only [Ql] at ro0
  clear on0;have hbW := hb0;have hb1 := hbW.trans (b1.mono hbW.size);have hA1 : w1.heap[w.heap.size]? = some (.cells #[.slice a0 x.fRefs.length c0, .slice a1 x.fLast.length c1] 25 (0, 0)) := Zq hA0 b1 (Nat.le_refl _);have hR1 : w1.heap[w.heap.size + 1]? = some (.cells #[.slice none 0 0, .slice none 0 0] 37 (0, 0)) := Zq hR0 b1 (Nat.le_refl _);have hO1 : w1.heap[w.heap.size + 1 + 1]? = some (.cells #[.slice none 0 0, .slice none 0 0] 37 (0, 0)) := Zq hO0 b1 (Nat.le_refl _);have hz1 : w.heap.size + 1 + 1 < w1.heap.size := YI hO1;have hs1 := b1.size
  try simp only [Y3] at hs1
  try simp only [Ql] at hs1
  clear b1 hbW hA0 hR0 hO0;have pa1 : w1.cell? ⟨w.heap.size, 1, none⟩ = some (.slice a1 x.fLast.length c1) := Zf hA1 1;have po0 : w1.cell? ⟨w.heap.size + 1 + 1, 0, none⟩ = some (.slice none 0 0) := Zf hO1 0;have pf0 := ZF hO1 0
  go_wp2_with fail
  refine (Zdf _ _ _ x.fLast _ hf.f1 (r1.below (hb1.setCell (p := ⟨w.heap.size + 1 + 1, 0, none⟩) (by simp; try omega) (.slice (some ⟨w.heap.size + 1 + 1 + 1, 0, none⟩) x.fRefs.length x.fRefs.length)))).mono ?_;rintro e w2 ⟨rfl, on1, b2⟩;have ro1 : RowO Zz 1 3 w2 _ w2.heap.size _ x.fLast := RowO.mk on1 (fun g hg => (on1.lt g hg).2)
  try simp only [Y3] at ro1
  try simp only [Ql] at ro1
  clear on1;have hbW := (hb1.setCell (p := ⟨w.heap.size + 1 + 1, 0, none⟩) (by simp; try omega) (.slice (some ⟨w.heap.size + 1 + 1 + 1, 0, none⟩) x.fRefs.length x.fRefs.length));have hb2 := hbW.trans (b2.mono hbW.size);have hA2 : w2.heap[w.heap.size]? = some (.cells #[.slice a0 x.fRefs.length c0, .slice a1 x.fLast.length c1] 25 (0, 0)) := Zq (ZG hA1 (p := ⟨w.heap.size + 1 + 1, 0, none⟩) (by simp; try omega) _) b2 (Nat.le_refl _);have hR2 : w2.heap[w.heap.size + 1]? = some (.cells #[.slice none 0 0, .slice none 0 0] 37 (0, 0)) := Zq (ZG hR1 (p := ⟨w.heap.size + 1 + 1, 0, none⟩) (by simp; try omega) _) b2 (Nat.le_refl _);have hO2 : w2.heap[w.heap.size + 1 + 1]? = some (.cells #[.slice (some ⟨w.heap.size + 1 + 1 + 1, 0, none⟩) x.fRefs.length x.fRefs.length, .slice none 0 0] 37 (0, 0)) := Zq (Jr hO1 (i := 0) _) b2 (Nat.le_refl _);have hz2 : w.heap.size + 1 + 1 < w2.heap.size := YI hO2;have ro0 := RowO.below (ro0.set (p := ⟨w.heap.size + 1 + 1, 0, none⟩) (by simp; try omega) (.slice (some ⟨w.heap.size + 1 + 1 + 1, 0, none⟩) x.fRefs.length x.fRefs.length)) b2 (Nat.le_refl _);have hs2 := b2.size
  try simp only [Y3] at hs2
  try simp only [Ql] at hs2
  clear b2 hbW hA1 hR1 hO1;clear pa1 po0 pf0;have po0 : w2.cell? ⟨w.heap.size + 1 + 1, 0, none⟩ = some (.slice (some ⟨w.heap.size + 1 + 1 + 1, 0, none⟩) x.fRefs.length x.fRefs.length) := Zf hO2 0;have pf0 := ZF hO2 0;have po1 : w2.cell? ⟨w.heap.size + 1 + 1, 1, none⟩ = some (.slice none 0 0) := Zf hO2 1;have pf1 := ZF hO2 1;have pr0 : w2.cell? ⟨w.heap.size + 1, 0, none⟩ = some (.slice none 0 0) := Zf hR2 0;have pg0 := ZF hR2 0;have pr1 : w2.cell? ⟨w.heap.size + 1, 1, none⟩ = some (.slice none 0 0) := Zf hR2 1;have pg1 := ZF hR2 1
  go_wp2
  refine bodyPost_ret (v := .agg #[.slice (some ⟨w.heap.size + 1 + 1 + 1, 0, none⟩) x.fRefs.length x.fRefs.length, .slice (some ⟨w1.heap.size, 0, none⟩) x.fLast.length x.fLast.length]) (by simp [results, Tryz.results50, go_sem, pr0, pr1]) rfl ?_;refine ⟨_, rfl, ⟨_, _, _, _, rfl, ?q0, ?q1, ?q0_1⟩, ?_⟩
  case q0 =>
    refine RowO.mono (((ro0.set ?_ _).set ?_ _).set ?_ _) ?_ ?_
    all_goals (first | omega | (simp; done) | (simp; omega))
  case q1 =>
    refine RowO.mono (((ro1.set ?_ _).set ?_ _).set ?_ _) ?_ ?_
    all_goals (first | omega | (simp; done) | (simp; omega))
  case q0_1 => exact Z9.of_lt (m := w1.heap.size) (fun g hg => (ro0.lt g hg).2.1) (fun g hg => by have := (ro1.lt g hg).1; first | exact this | omega | (simp at this; omega))
  refine (Below.setCell (Below.setCell (Below.setCell hb2 ?_ _) ?_ _) ?_ _)
  all_goals (first | omega | (simp; done) | (simp; omega))
theorem ZgD (u v : Value) (x : Zt) (w : World) (hf : x.Fit) (hr : Zt.Reads w u x) (hs : Zt.Reads w v x) :
    Calls Tryz.prog 58 #[u, v] w fun e w' => e = .returned (.bool true) ∧ Below w.heap.size w w' := by
  obtain ⟨a0, c0, a1, c1, rfl, r0, r1⟩ := hr;obtain ⟨b0, d0, b1, d1, rfl, s0, s1⟩ := hs;have hb0 : Below w.heap.size w ((w.alloc (.cells #[.slice a0 x.fRefs.length c0, .slice a1 x.fLast.length c1] 37)).alloc (.cells #[.slice b0 x.fRefs.length d0, .slice b1 x.fLast.length d1] 37)) := ((Below.refl _ _).alloc (Nat.le_refl _) _).alloc (by simp) _;have hA0 : ((w.alloc (.cells #[.slice a0 x.fRefs.length c0, .slice a1 x.fLast.length c1] 37)).alloc (.cells #[.slice b0 x.fRefs.length d0, .slice b1 x.fLast.length d1] 37)).heap[w.heap.size]? = some (.cells #[.slice a0 x.fRefs.length c0, .slice a1 x.fLast.length c1] 37 (0, 0)) := YT (ZZ w _ _ rfl) _;have hB0 : ((w.alloc (.cells #[.slice a0 x.fRefs.length c0, .slice a1 x.fLast.length c1] 37)).alloc (.cells #[.slice b0 x.fRefs.length d0, .slice b1 x.fLast.length d1] 37)).heap[w.heap.size + 1]? = some (.cells #[.slice b0 x.fRefs.length d0, .slice b1 x.fLast.length d1] 37 (0, 0)) := ZZ _ _ (w.heap.size + 1) (by simp)
  go_enter Tryz.func58, Tryz.ntmps58
  go_wp2_with fail
  refine (Zdg _ _ _ _ _ x.fRefs _ hf.f0 (r0.below hb0) (s0.below hb0)).mono ?_;rintro e w1 ⟨rfl, b1⟩;have hb1 := hb0.trans (b1.mono hb0.size);have hA1 := Zq hA0 b1 (Nat.le_refl _);have hB1 := Zq hB0 b1 (Nat.le_refl _);clear b1 hA0 hB0;have p1 : w1.cell? ⟨w.heap.size, 1, none⟩ = some (.slice a1 x.fLast.length c1) := Zf hA1 1;have q1 : w1.cell? ⟨w.heap.size + 1, 1, none⟩ = some (.slice b1 x.fLast.length d1) := Zf hB1 1
  go_wp2_with fail
  refine (Zdg _ _ _ _ _ x.fLast _ hf.f1 (r1.below hb1) (s1.below hb1)).mono ?_;rintro e w2 ⟨rfl, b2⟩;have hb2 := hb1.trans (b2.mono hb1.size);have hA2 := Zq hA1 b2 (Nat.le_refl _);have hB2 := Zq hB1 b2 (Nat.le_refl _);clear b2 hA1 hB1;clear p1 q1
  go_wp2
  go_ret
  exact ⟨rfl, hb2⟩
open Go.RowKit
def XD (i : Nat) (r l : Int) : Bool := inB l 0 900 && (inB r 0 l && ((r != 0 || l == 0) && (inB i 8 63 || decide (r ≤ 0))))
def Qm (s : Zt) (k : Nat) : Bool := (List.range k).all fun i => XD i (s.fRefs.getD i 0) (s.fLast.getD i 0)
theorem Zcg (s : Zt) (k : Nat) : Qm s (k + 1) = (Qm s k && XD k (s.fRefs.getD k 0) (s.fLast.getD k 0)) := by
  simp [Qm, List.range_succ]
theorem Ze2 {s : Zt} {k m : Nat} (h : Qm s m = true) (hk : k < m) : XD k (s.fRefs.getD k 0) (s.fLast.getD k 0) = true := by
  simp only [Qm, List.all_eq_true] at h;exact h k (List.mem_range.2 hk)
theorem Zdh {s : Zt} {k m : Nat} (hk : k < m) (h : XD k (s.fRefs.getD k 0) (s.fLast.getD k 0) = false) : Qm s m = false := by
  cases hm : Qm s m with
  | false => rfl
  | true => rw [Ze2 hm hk] at h; cases h
def Zt.ok (s : Zt) : Bool := s.fRefs.length == 64 && s.fLast.length == 64 && Qm s 64
theorem XZ {α : Type} {xs : List α} {k : Nat} {x d : α} (h : xs[k]? = some x) : xs.getD k d = x := by simp [List.getD, h]
theorem UX (v : Value) (s : Zt) (w : World) (hr : Zt.Reads w v s) (hf : s.Fit) :
    Calls Tryz.prog 97 #[v] w fun e w' => e = .returned (.bool s.ok) ∧ Below w.heap.size w w' := by
  obtain ⟨a0, c0, a1, c1, rfl, r0, r1⟩ := hr;have hf0 := hf.f0;have hf1 := hf.f1;have hb0 : Below w.heap.size w (w.alloc (.cells #[.slice a0 s.fRefs.length c0, .slice a1 s.fLast.length c1] 37)) := (Below.refl _ _).alloc (Nat.le_refl _) _;have hA0 := ZZ w (.cells #[.slice a0 s.fRefs.length c0, .slice a1 s.fLast.length c1] 37) _ rfl
  by_cases h0 : s.fRefs.length = 64
  rotate_left
  · have H : Hid (s.ok = false) := by show _ = _; simp [Zt.ok, h0]
    go_enter Tryz.func97, Tryz.ntmps97
    go_wp2
    go_ret
    exact ⟨Zs H.out.symm, hb0⟩
  have H0 := Lib.hid h0;have hl0 := h0;rw [h0] at r0 hb0 hA0 ⊢;clear h0
  by_cases h1 : s.fLast.length = 64
  rotate_left
  · have H : Hid (s.ok = false) := by show _ = _; simp [Zt.ok, h1]
    go_enter Tryz.func97, Tryz.ntmps97
    go_wp2
    go_ret
    exact ⟨Zs H.out.symm, hb0⟩
  have H : Hid (s.ok = Qm s 64) := by show _ = _; simp [Zt.ok, hl0, h1]
  rw [h1] at r1 hb0 hA0 ⊢;have H1 := Lib.hid h1;clear h1 hl0 hf0 hf1 hf
  go_enter Tryz.func97, Tryz.ntmps97
  go_wp2
  go_loopw [3] (fun i wr => ∃ k : Nat, k ≤ 64 ∧ i = .int .i64 k ∧ Qm s k = true ∧ Below w.heap.size w wr ∧ wr.heap[w.heap.size]? = some (.cells #[.slice a0 64 c0, .slice a1 64 c1] 37 (0, 0))) (fun i _ => 64 - (intOf i).toNat)
  case atStart => exact ⟨0, by omega, rfl, rfl, hb0, hA0⟩
  case round =>
    obtain ⟨k, hk, rfl, hok, hb, hA⟩ := hrel;have HOK := Lib.hid hok;clear hok
    by_cases hlt : k < 64
    · obtain ⟨b, off, r, hx0, rfl, hbl, hrg⟩ := r0.at_ k (by rw [H0.out]; exact hlt)
      have d0 := (Zu hrg hb hbl) 0 _ rfl;simp only [Nat.mul_one, Nat.add_zero] at d0;obtain ⟨b2, off2, l, hx1, rfl, hbl2, hrg2⟩ := r1.at_ k (by rw [H1.out]; exact hlt);have d1 := (Zu hrg2 hb hbl2) 0 _ rfl;simp only [Nat.mul_one, Nat.add_zero] at d1;have hg0 : s.fRefs.getD k 0 = r := XZ hx0;have hg1 : s.fLast.getD k 0 = l := XZ hx1;have p0 : wr.cell? ⟨w.heap.size, 0, none⟩ = some (.slice (some ⟨b, off, none⟩) 64 c0) := Zf hA 0;have p1 : wr.cell? ⟨w.heap.size, 1, none⟩ = some (.slice (some ⟨b2, off2, none⟩) 64 c1) := Zf hA 1;have hlast : Hid (XD k r l = false → s.ok = false) := fun h => by rw [H.out]; exact Zdh hlt (by rw [hg0, hg1]; exact h)
      have hnext : Hid (XD k r l = true → Qm s (k + 1) = true) := fun h => by rw [Zcg, HOK.out, hg0, hg1, h]; rfl
      have HA := Lib.hid hA;clear hx0 hx1 hg0 hg1 hrg hrg2 hA hA0 hb0
      by_cases g1 : inB l 0 900 = true
      rotate_left
      · have g1' : inB l 0 900 = false := by simpa using g1
        have HR : Hid (XD k r l = false) := by show _ = _; simp [XD, g1']
        clear g1
        go_wp2_with fail
        go_quiet ((first | (go_at_call 82; exact Calls.quiet_of_same ((YA _ _ _ _).mono fun _ _ ⟨h1, h2⟩ => ⟨h1, h2.symm⟩)) | (go_at_call 158; exact Calls.quiet_of_same ((Qo _ _).mono fun _ _ ⟨h1, h2⟩ => ⟨h1, h2.symm⟩))))
        go_wp2
        go_ret
        exact ⟨Zs (hlast.out HR.out).symm, hb.trans (ZM _ _ _)⟩
      have hl := ZB g1
      by_cases g2 : inB r 0 l = true
      rotate_left
      · have g2' : inB r 0 l = false := by simpa using g2
        have HR : Hid (XD k r l = false) := by show _ = _; simp [XD, g2']
        clear g2
        go_wp2_with fail
        go_quiet ((first | (go_at_call 82; exact Calls.quiet_of_same ((YA _ _ _ _).mono fun _ _ ⟨h1, h2⟩ => ⟨h1, h2.symm⟩)) | (go_at_call 158; exact Calls.quiet_of_same ((Qo _ _).mono fun _ _ ⟨h1, h2⟩ => ⟨h1, h2.symm⟩))))
        go_wp2
        go_ret
        exact ⟨Zs (hlast.out HR.out).symm, hb.trans (ZM _ _ _)⟩
      have hr2 := ZB g2
      by_cases g3 : r = 0
      · subst g3
        by_cases g4 : l = 0
        · subst g4
          cases g5 : inB (k : Int) 8 63
          · have HR : Hid (XD k 0 0 = true) := by show _ = _; simp [XD, g1, g2]
            go_wp2_with fail
            go_quiet ((first | (go_at_call 82; exact Calls.quiet_of_same ((YA _ _ _ _).mono fun _ _ ⟨h1, h2⟩ => ⟨h1, h2.symm⟩)) | (go_at_call 158; exact Calls.quiet_of_same ((Qo _ _).mono fun _ _ ⟨h1, h2⟩ => ⟨h1, h2.symm⟩))))
            go_wp2
            go_roundw
            case rel => exact ⟨k + 1, by omega, by go_num, hnext.out HR.out, hb.trans (ZM _ _ _), HA.out⟩
            case measure => simp [intOf]; omega
          · have HR : Hid (XD k 0 0 = true) := by show _ = _; simp [XD, g1, g2]
            go_wp2_with fail
            go_quiet ((first | (go_at_call 82; exact Calls.quiet_of_same ((YA _ _ _ _).mono fun _ _ ⟨h1, h2⟩ => ⟨h1, h2.symm⟩)) | (go_at_call 158; exact Calls.quiet_of_same ((Qo _ _).mono fun _ _ ⟨h1, h2⟩ => ⟨h1, h2.symm⟩))))
            go_wp2
            go_roundw
            case rel => exact ⟨k + 1, by omega, by go_num, hnext.out HR.out, hb.trans (ZM _ _ _), HA.out⟩
            case measure => simp [intOf]; omega
        · have g4' : ((l : Int) != 0) = true := by simpa using g4
          have HR : Hid (XD k 0 l = false) := by show _ = _; simp [XD, g4]
          clear g4
          go_wp2_with fail
          go_quiet ((first | (go_at_call 82; exact Calls.quiet_of_same ((YA _ _ _ _).mono fun _ _ ⟨h1, h2⟩ => ⟨h1, h2.symm⟩)) | (go_at_call 158; exact Calls.quiet_of_same ((Qo _ _).mono fun _ _ ⟨h1, h2⟩ => ⟨h1, h2.symm⟩))))
          go_wp2
          go_ret
          exact ⟨Zs (hlast.out HR.out).symm, hb.trans (ZM _ _ _)⟩
      · have g3' : ((r : Int) == 0) = false := by simpa using g3
        have g6 : 0 < r := by omega
        cases g5 : inB (k : Int) 8 63
        · have HR : Hid (XD k r l = false) := by show _ = _; simp [XD, g5]; omega
          clear g3
          go_wp2_with fail
          go_quiet ((first | (go_at_call 82; exact Calls.quiet_of_same ((YA _ _ _ _).mono fun _ _ ⟨h1, h2⟩ => ⟨h1, h2.symm⟩)) | (go_at_call 158; exact Calls.quiet_of_same ((Qo _ _).mono fun _ _ ⟨h1, h2⟩ => ⟨h1, h2.symm⟩))))
          go_wp2
          go_ret
          exact ⟨Zs (hlast.out HR.out).symm, hb.trans (ZM _ _ _)⟩
        · have HR : Hid (XD k r l = true) := by show _ = _; simp [XD, g1, g2, g5, g3]
          clear g3
          go_wp2_with fail
          go_quiet ((first | (go_at_call 82; exact Calls.quiet_of_same ((YA _ _ _ _).mono fun _ _ ⟨h1, h2⟩ => ⟨h1, h2.symm⟩)) | (go_at_call 158; exact Calls.quiet_of_same ((Qo _ _).mono fun _ _ ⟨h1, h2⟩ => ⟨h1, h2.symm⟩))))
          go_wp2
          go_roundw
          case rel => exact ⟨k + 1, by omega, by go_num, hnext.out HR.out, hb.trans (ZM _ _ _), HA.out⟩
          case measure => simp [intOf]; omega
    · have hk' : k = 64 := by omega
      subst hk'
      go_wp2
      go_ret
      exact ⟨Zs (by rw [H.out, HOK.out]), hb⟩
def XK (i : Nat) (r l : Int) : Bool := inB r 0 900 && (inB l r 900 && ((r != 0 || l == 0) && (decide (r ≤ 0) || !decide ((i : Int) < 8))))
theorem ZbF {i : Nat} {r l : Int} (hi : i < 64 := by omega) : XD i r l = XK i r l := by
  unfold XD XK inB;rw [Bool.eq_iff_iff]
  simp
  omega
theorem ZcJ (v : Value) (s : Zt) (w : World) (hr : Zt.Reads w v s) (hf : s.Fit) :
    Calls Tryz.prog 152 #[v] w fun e w' => e = .returned (.bool s.ok) ∧ Below w.heap.size w w' := by
  obtain ⟨a0, c0, a1, c1, rfl, r0, r1⟩ := hr;have hf0 := hf.f0;have hf1 := hf.f1;have hb0 : Below w.heap.size w (w.alloc (.cells #[.slice a0 s.fRefs.length c0, .slice a1 s.fLast.length c1] 37)) := (Below.refl _ _).alloc (Nat.le_refl _) _;have hA0 := ZZ w (.cells #[.slice a0 s.fRefs.length c0, .slice a1 s.fLast.length c1] 37) _ rfl
  by_cases h0 : s.fRefs.length = 64
  rotate_left
  · have H : Hid (s.ok = false) := by show _ = _; simp [Zt.ok, h0]
    go_enter Tryz.func152, Tryz.ntmps152
    go_wp2
    go_ret
    exact ⟨Zs H.out.symm, hb0⟩
  have H0 := Lib.hid h0;have hl0 := h0;rw [h0] at r0 hb0 hA0 ⊢;clear h0
  by_cases h1 : s.fLast.length = 64
  rotate_left
  · have H : Hid (s.ok = false) := by show _ = _; simp [Zt.ok, h1]
    go_enter Tryz.func152, Tryz.ntmps152
    go_wp2
    go_ret
    exact ⟨Zs H.out.symm, hb0⟩
  have H : Hid (s.ok = Qm s 64) := by show _ = _; simp [Zt.ok, hl0, h1]
  rw [h1] at r1 hb0 hA0 ⊢;have H1 := Lib.hid h1;clear h1 hl0 hf0 hf1 hf
  go_enter Tryz.func152, Tryz.ntmps152
  go_wp2
  go_loopw [19] (fun i wr => ∃ k : Nat, k ≤ 64 ∧ i = .int .i64 k ∧ Qm s k = true ∧ Below w.heap.size w wr ∧ wr.heap[w.heap.size]? = some (.cells #[.slice a0 64 c0, .slice a1 64 c1] 37 (0, 0))) (fun i _ => 64 - (intOf i).toNat)
  case atStart => exact ⟨0, by omega, rfl, rfl, hb0, hA0⟩
  case round =>
    obtain ⟨k, hk, rfl, hok, hb, hA⟩ := hrel;have HOK := Lib.hid hok;clear hok
    by_cases hlt : k < 64
    · obtain ⟨b, off, r, hx0, rfl, hbl, hrg⟩ := r0.at_ k (by rw [H0.out]; exact hlt)
      have d0 := (Zu hrg hb hbl) 0 _ rfl;simp only [Nat.mul_one, Nat.add_zero] at d0;obtain ⟨b2, off2, l, hx1, rfl, hbl2, hrg2⟩ := r1.at_ k (by rw [H1.out]; exact hlt);have d1 := (Zu hrg2 hb hbl2) 0 _ rfl;simp only [Nat.mul_one, Nat.add_zero] at d1;have hg0 : s.fRefs.getD k 0 = r := XZ hx0;have hg1 : s.fLast.getD k 0 = l := XZ hx1;have p0 : wr.cell? ⟨w.heap.size, 0, none⟩ = some (.slice (some ⟨b, off, none⟩) 64 c0) := Zf hA 0;have p1 : wr.cell? ⟨w.heap.size, 1, none⟩ = some (.slice (some ⟨b2, off2, none⟩) 64 c1) := Zf hA 1;have hlast : Hid (XD k r l = false → s.ok = false) := fun h => by rw [H.out]; exact Zdh hlt (by rw [hg0, hg1]; exact h)
      have hnext : Hid (XD k r l = true → Qm s (k + 1) = true) := fun h => by rw [Zcg, HOK.out, hg0, hg1, h]; rfl
      have HA := Lib.hid hA;clear hx0 hx1 hg0 hg1 hrg hrg2 hA hA0 hb0;have hlast : Hid (XK k r l = false → s.ok = false) := fun h => hlast.out (by rw [ZbF]; exact h)
      have hnext : Hid (XK k r l = true → Qm s (k + 1) = true) := fun h => hnext.out (by rw [ZbF]; exact h)
      by_cases g1 : inB r 0 900 = true
      rotate_left
      · have g1' : inB r 0 900 = false := by simpa using g1
        have HR : Hid (XK k r l = false) := by show _ = _; simp [XK, g1']
        clear g1
        go_wp2_with (go_at_call 86; refine (Z2 _ _ _ _).mono ?_; rintro e w' ⟨rfl, rfl⟩)
        go_ret
        exact ⟨Zs (hlast.out HR.out).symm, hb⟩
      have hr2 := ZB g1
      by_cases g2 : inB l r 900 = true
      rotate_left
      · have g2' : inB l r 900 = false := by simpa using g2
        have HR : Hid (XK k r l = false) := by show _ = _; simp [XK, g2']
        clear g2
        go_wp2_with (go_at_call 86; refine (Z2 _ _ _ _).mono ?_; rintro e w' ⟨rfl, rfl⟩)
        go_ret
        exact ⟨Zs (hlast.out HR.out).symm, hb⟩
      have hl := ZB g2
      by_cases g3 : r = 0
      · subst g3
        by_cases g4 : l = 0
        · subst g4
          have HR : Hid (XK k 0 0 = true) := by show _ = _; simp [XK, g1]
          go_wp2_with (go_at_call 86; refine (Z2 _ _ _ _).mono ?_; rintro e w' ⟨rfl, rfl⟩)
          go_roundw
          case rel => exact ⟨k + 1, by omega, by go_num, hnext.out HR.out, hb, HA.out⟩
          case measure => simp [intOf]; omega
        · have g4' : ((l : Int) != 0) = true := by simpa using g4
          have HR : Hid (XK k 0 l = false) := by show _ = _; simp [XK, g4]
          clear g4
          go_wp2_with (go_at_call 86; refine (Z2 _ _ _ _).mono ?_; rintro e w' ⟨rfl, rfl⟩)
          go_ret
          exact ⟨Zs (hlast.out HR.out).symm, hb⟩
      · have g3' : ((r : Int) == 0) = false := by simpa using g3
        have g6 : 0 < r := by omega
        by_cases g5 : (k : Int) < 8
        · have HR : Hid (XK k r l = false) := by show _ = _; simp [XK, g5, g6]
          clear g3
          go_wp2_with (go_at_call 86; refine (Z2 _ _ _ _).mono ?_; rintro e w' ⟨rfl, rfl⟩)
          go_ret
          exact ⟨Zs (hlast.out HR.out).symm, hb⟩
        · have HR : Hid (XK k r l = true) := by show _ = _; simp [XK, g1, g2, g5, g3]
          clear g3
          go_wp2_with (go_at_call 86; refine (Z2 _ _ _ _).mono ?_; rintro e w' ⟨rfl, rfl⟩)
          go_roundw
          case rel => exact ⟨k + 1, by omega, by go_num, hnext.out HR.out, hb, HA.out⟩
          case measure => simp [intOf]; omega
    · have hk' : k = 64 := by omega
      subst hk'
      go_wp2
      go_ret
      exact ⟨Zs (by rw [H.out, HOK.out]), hb⟩
open Go.RowKit
structure Zb where
  fRows : List ByteArray
  fSpace : Zt
  fTxg : Int
  fGone : List PtrD
  fKeep : Int
  fDead : List PtrD
  fSame : Bool
abbrev sL (a0 : Option Addr) (c0 : Nat) (a1 : Option Addr) (c1 : Nat) (a2 : Option Addr) (c2 : Nat) (a4 : Option Addr) (c4 : Nat) (a6 : Option Addr) (c6 : Nat) (st : Zb) : List Value := [.slice a0 st.fRows.length c0, .slice a1 st.fSpace.fRefs.length c1, .slice a2 st.fSpace.fLast.length c2, .int .i64 st.fTxg, .slice a4 st.fGone.length c4, .int .i64 st.fKeep, .slice a6 st.fDead.length c6, .bool st.fSame]
abbrev sV (a0 : Option Addr) (c0 : Nat) (a1 : Option Addr) (c1 : Nat) (a2 : Option Addr) (c2 : Nat) (a4 : Option Addr) (c4 : Nat) (a6 : Option Addr) (c6 : Nat) (st : Zb) : Value := .agg #[.slice a0 st.fRows.length c0, .slice a1 st.fSpace.fRefs.length c1, .slice a2 st.fSpace.fLast.length c2, .int .i64 st.fTxg, .slice a4 st.fGone.length c4, .int .i64 st.fKeep, .slice a6 st.fDead.length c6, .bool st.fSame]
def Zb.Reads (w : World) (v : Value) (x : Zb) : Prop := ∃ (a0 : Option Addr) (c0 : Nat) (a1 : Option Addr) (c1 : Nat) (a2 : Option Addr) (c2 : Nat) (a4 : Option Addr) (c4 : Nat) (a6 : Option Addr) (c6 : Nat), v = .agg #[.slice a0 x.fRows.length c0, .slice a1 x.fSpace.fRefs.length c1, .slice a2 x.fSpace.fLast.length c2, .int .i64 x.fTxg, .slice a4 x.fGone.length c4, .int .i64 x.fKeep, .slice a6 x.fDead.length c6, .bool x.fSame] ∧ Rd Zl 1 w a0 x.fRows.length x.fRows ∧ Rd Zz 1 w a1 x.fSpace.fRefs.length x.fSpace.fRefs ∧ Rd Zz 1 w a2 x.fSpace.fLast.length x.fSpace.fLast ∧ Rd PtrD.cells 5 w a4 x.fGone.length x.fGone ∧ Rd PtrD.cells 5 w a6 x.fDead.length x.fDead
def Zb.Own (w : World) (B B1 : Nat) (v : Value) (x : Zb) : Prop := ∃ (a0 : Option Addr) (c0 : Nat) (a1 : Option Addr) (c1 : Nat) (a2 : Option Addr) (c2 : Nat) (a4 : Option Addr) (c4 : Nat) (a6 : Option Addr) (c6 : Nat), v = .agg #[.slice a0 x.fRows.length c0, .slice a1 x.fSpace.fRefs.length c1, .slice a2 x.fSpace.fLast.length c2, .int .i64 x.fTxg, .slice a4 x.fGone.length c4, .int .i64 x.fKeep, .slice a6 x.fDead.length c6, .bool x.fSame] ∧ RowO Zl 1 9 w B B1 (.slice a0 x.fRows.length c0) x.fRows ∧ RowO Zz 1 3 w B B1 (.slice a1 x.fSpace.fRefs.length c1) x.fSpace.fRefs ∧ RowO Zz 1 3 w B B1 (.slice a2 x.fSpace.fLast.length c2) x.fSpace.fLast ∧ RowO PtrD.cells 5 42 w B B1 (.slice a4 x.fGone.length c4) x.fGone ∧ RowO PtrD.cells 5 42 w B B1 (.slice a6 x.fDead.length c6) x.fDead ∧ Z9 (.slice a0 x.fRows.length c0) (.slice a1 x.fSpace.fRefs.length c1) ∧ Z9 (.slice a0 x.fRows.length c0) (.slice a2 x.fSpace.fLast.length c2) ∧ Z9 (.slice a0 x.fRows.length c0) (.slice a4 x.fGone.length c4) ∧ Z9 (.slice a0 x.fRows.length c0) (.slice a6 x.fDead.length c6) ∧ Z9 (.slice a1 x.fSpace.fRefs.length c1) (.slice a2 x.fSpace.fLast.length c2) ∧ Z9 (.slice a1 x.fSpace.fRefs.length c1) (.slice a4 x.fGone.length c4) ∧ Z9 (.slice a1 x.fSpace.fRefs.length c1) (.slice a6 x.fDead.length c6) ∧ Z9 (.slice a2 x.fSpace.fLast.length c2) (.slice a4 x.fGone.length c4) ∧ Z9 (.slice a2 x.fSpace.fLast.length c2) (.slice a6 x.fDead.length c6) ∧ Z9 (.slice a4 x.fGone.length c4) (.slice a6 x.fDead.length c6)
theorem Zb.Reads.below {w w' : World} {v : Value} {x : Zb} (h : Zb.Reads w v x) (hb : Below w.heap.size w w') : Zb.Reads w' v x := by
  obtain ⟨a0, c0, a1, c1, a2, c2, a4, c4, a6, c6, rfl, r0, r1, r2, r4, r6⟩ := h;exact ⟨a0, c0, a1, c1, a2, c2, a4, c4, a6, c6, rfl, r0.below hb, r1.below hb, r2.below hb, r4.below hb, r6.below hb⟩
theorem Zb.Own.rd {w : World} {B B1 : Nat} {v : Value} {x : Zb} (h : Zb.Own w B B1 v x) : Zb.Reads w v x := by
  obtain ⟨a0, c0, a1, c1, a2, c2, a4, c4, a6, c6, rfl, r0, r1, r2, r4, r6, p0_1, p0_2, p0_4, p0_6, p1_2, p1_4, p1_6, p2_4, p2_6, p4_6⟩ := h;obtain ⟨u0, e0, k0, d0⟩ := r0.rd encS_len;simp only [Value.slice.injEq, true_and] at k0;obtain ⟨rfl, rfl⟩ := k0;obtain ⟨u1, e1, k1, d1⟩ := r1.rd encI_len;simp only [Value.slice.injEq, true_and] at k1;obtain ⟨rfl, rfl⟩ := k1;obtain ⟨u2, e2, k2, d2⟩ := r2.rd encI_len;simp only [Value.slice.injEq, true_and] at k2;obtain ⟨rfl, rfl⟩ := k2;obtain ⟨u4, e4, k4, d4⟩ := r4.rd PtrD.cells_len;simp only [Value.slice.injEq, true_and] at k4;obtain ⟨rfl, rfl⟩ := k4;obtain ⟨u6, e6, k6, d6⟩ := r6.rd PtrD.cells_len;simp only [Value.slice.injEq, true_and] at k6;obtain ⟨rfl, rfl⟩ := k6;exact ⟨_, _, _, _, _, _, _, _, _, _, rfl, d0, d1, d2, d4, d6⟩
theorem Zb.Own.below {w : World} {B B1 : Nat} {v : Value} {x : Zb} (h : Zb.Own w B B1 v x) {w' : World} {C : Nat} (hb : Below C w w') (hC : w.heap.size ≤ C) : Zb.Own w' B B1 v x := by
  obtain ⟨a0, c0, a1, c1, a2, c2, a4, c4, a6, c6, rfl, r0, r1, r2, r4, r6, p0_1, p0_2, p0_4, p0_6, p1_2, p1_4, p1_6, p2_4, p2_6, p4_6⟩ := h;exact ⟨a0, c0, a1, c1, a2, c2, a4, c4, a6, c6, rfl, r0.below hb hC, r1.below hb hC, r2.below hb hC, r4.below hb hC, r6.below hb hC, p0_1, p0_2, p0_4, p0_6, p1_2, p1_4, p1_6, p2_4, p2_6, p4_6⟩
theorem Zb.Own.mono {w : World} {B B1 : Nat} {v : Value} {x : Zb} (h : Zb.Own w B B1 v x) {B' B1' : Nat} (hB : B' ≤ B) (hB1 : B1 ≤ B1') : Zb.Own w B' B1' v x := by
  obtain ⟨a0, c0, a1, c1, a2, c2, a4, c4, a6, c6, rfl, r0, r1, r2, r4, r6, p0_1, p0_2, p0_4, p0_6, p1_2, p1_4, p1_6, p2_4, p2_6, p4_6⟩ := h;exact ⟨a0, c0, a1, c1, a2, c2, a4, c4, a6, c6, rfl, r0.mono hB hB1, r1.mono hB hB1, r2.mono hB hB1, r4.mono hB hB1, r6.mono hB hB1, p0_1, p0_2, p0_4, p0_6, p1_2, p1_4, p1_6, p2_4, p2_6, p4_6⟩
theorem Zb.Own.outside {w : World} {B B1 : Nat} {v : Value} {x : Zb} (h : Zb.Own w B B1 v x) {w' : World} {C C1 : Nat} (ho : ZK C C1 w w') (hap : B1 ≤ C ∨ C1 ≤ B) : Zb.Own w' B B1 v x := by
  obtain ⟨a0, c0, a1, c1, a2, c2, a4, c4, a6, c6, rfl, r0, r1, r2, r4, r6, p0_1, p0_2, p0_4, p0_6, p1_2, p1_4, p1_6, p2_4, p2_6, p4_6⟩ := h;exact ⟨a0, c0, a1, c1, a2, c2, a4, c4, a6, c6, rfl, r0.outside ho hap, r1.outside ho hap, r2.outside ho hap, r4.outside ho hap, r6.outside ho hap, p0_1, p0_2, p0_4, p0_6, p1_2, p1_4, p1_6, p2_4, p2_6, p4_6⟩
theorem Zb.Own.set {w : World} {B B1 : Nat} {v : Value} {x : Zb} (h : Zb.Own w B B1 v x) {p : Addr} (hp : p.block < B) (u : Value) : Zb.Own (w.setCell p u) B B1 v x := by
  obtain ⟨a0, c0, a1, c1, a2, c2, a4, c4, a6, c6, rfl, r0, r1, r2, r4, r6, p0_1, p0_2, p0_4, p0_6, p1_2, p1_4, p1_6, p2_4, p2_6, p4_6⟩ := h;exact ⟨a0, c0, a1, c1, a2, c2, a4, c4, a6, c6, rfl, r0.set hp u, r1.set hp u, r2.set hp u, r4.set hp u, r6.set hp u, p0_1, p0_2, p0_4, p0_6, p1_2, p1_4, p1_6, p2_4, p2_6, p4_6⟩
def Zb.bulk (x : Zb) : Nat := (x.fRows.length + tot ByteArray.size x.fRows) + x.fSpace.fRefs.length + x.fSpace.fLast.length + x.fGone.length + x.fDead.length
structure Zb.Small (x : Zb) : Prop where
  s0_0 : x.fRows.length ≤ 9223372036854775807
  s0_1 : (∀ e ∈ x.fRows, e.size ≤ 9223372036854775807)
  s1_0 : x.fSpace.fRefs.length ≤ 9223372036854775807
  s2_0 : x.fSpace.fLast.length ≤ 9223372036854775807
  s4_0 : x.fGone.length ≤ 9223372036854775807
  s6_0 : x.fDead.length ≤ 9223372036854775807
structure Zb.Fit (x : Zb) : Prop where
  f0 : x.fRows.length ≤ 1048576
  f1 : x.fSpace.fRefs.length ≤ 1048576
  f2 : x.fSpace.fLast.length ≤ 1048576
  f4 : x.fGone.length ≤ 1048576
  f6 : x.fDead.length ≤ 1048576
theorem Zb.fit {x : Zb} (h : x.bulk ≤ 1048576) : x.Fit := by
  unfold Zb.bulk at h;exact ⟨by omega, by omega, by omega, by omega, by omega⟩
theorem ZgE (v : Value) (x : Zb) (l : Int) (w : World) (hl0 : 0 ≤ l) (hl1 : l ≤ 1048576) (hr : Zb.Reads w v x) (hs : x.Small) :
    Calls Tryz.prog 11 #[v, .int .i64 l] w fun e w' => e = .returned (.int .i64 (U6 l x.bulk)) ∧ Below w.heap.size w w' := by
  obtain ⟨a0, c0, a1, c1, a2, c2, a4, c4, a6, c6, rfl, r0, r1, r2, r4, r6⟩ := hr;have hbA : Below w.heap.size w (w.alloc (.cells #[.slice a0 x.fRows.length c0, .slice a1 x.fSpace.fRefs.length c1, .slice a2 x.fSpace.fLast.length c2, .int .i64 x.fTxg, .slice a4 x.fGone.length c4, .int .i64 x.fKeep, .slice a6 x.fDead.length c6, .bool x.fSame] 28)) := (Below.refl _ _).alloc (Nat.le_refl _) _;have hA0 := ZZ w (.cells #[.slice a0 x.fRows.length c0, .slice a1 x.fSpace.fRefs.length c1, .slice a2 x.fSpace.fLast.length c2, .int .i64 x.fTxg, .slice a4 x.fGone.length c4, .int .i64 x.fKeep, .slice a6 x.fDead.length c6, .bool x.fSame] 28) _ rfl;obtain ⟨t0, ht0⟩ : ∃ t : Nat, t = (x.fRows.length + tot ByteArray.size x.fRows) := ⟨_, rfl⟩;obtain ⟨t1, ht1⟩ : ∃ t : Nat, t = x.fSpace.bulk := ⟨_, rfl⟩;obtain ⟨t2, ht2⟩ : ∃ t : Nat, t = x.fGone.length := ⟨_, rfl⟩;obtain ⟨t3, ht3⟩ : ∃ t : Nat, t = x.fDead.length := ⟨_, rfl⟩;have HB : Hid (x.bulk = t0 + t1 + t2 + t3) := by
    show x.bulk = _;simp only [ht0, ht1, ht2, ht3];unfold Zb.bulk;simp only [Zt.bulk]
    omega
  have HT0 := Lib.hid ht0;clear ht0;have HT1 := Lib.hid ht1;clear ht1;have HT2 := Lib.hid ht2;clear ht2;have HT3 := Lib.hid ht3;clear ht3
  go_enter Tryz.func11, Tryz.ntmps11
  go_wp2_with fail
  refine (ZeH _ _ _ x.fRows _ _ (by omega) (by omega) hs.s0_0 (r0.below hbA) hs.s0_1).mono ?_;rintro e w1 ⟨rfl, b1⟩;rw [← HT0.out];have hA1 := Zq hA0 b1 (Nat.le_refl _);have hb1 := hbA.trans (b1.mono hbA.size);clear b1 hA0
  by_cases g0 : l < (t0 : Int)
  · rw [Yw g0]
    go_wp2
    go_ret
    exact ⟨XC (by rw [HB.out, Yw (by omega)]), hb1⟩
  rw [YU (Int.not_lt.1 g0)];have p1 : w1.cell? ⟨w.heap.size, 1, none⟩ = some (.slice a1 x.fSpace.fRefs.length c1) := Zf hA1 1;have p2 : w1.cell? ⟨w.heap.size, 2, none⟩ = some (.slice a2 x.fSpace.fLast.length c2) := Zf hA1 2
  go_wp2_with fail
  refine (ZgB _ x.fSpace _ _ (by omega) (by omega) ⟨_, _, _, _, rfl, r1.below hb1, r2.below hb1⟩ ⟨hs.s1_0, hs.s2_0⟩).mono ?_;rintro e w2 ⟨rfl, b2⟩;rw [← HT1.out];have hA2 := Zq hA1 b2 (Nat.le_refl _);have hb2 := hb1.trans (b2.mono hb1.size);clear b2 hA1
  by_cases g1 : l - t0 < (t1 : Int)
  · rw [Yw g1]
    go_wp2
    go_ret
    exact ⟨XC (by rw [HB.out, Yw (by omega)]), hb2⟩
  rw [YU (Int.not_lt.1 g1)];have p4 : w2.cell? ⟨w.heap.size, 4, none⟩ = some (.slice a4 x.fGone.length c4) := Zf hA2 4
  go_wp2_with fail
  refine (Zdb _ _ _ _ _ (by omega) (by omega) hs.s4_0).mono ?_;rintro e w3 ⟨rfl, b3⟩;rw [← HT2.out];have hA3 := Zq hA2 b3 (Nat.le_refl _);have hb3 := hb2.trans (b3.mono hb2.size);clear b3 hA2
  by_cases g2 : l - t0 - t1 < (t2 : Int)
  · rw [Yw g2]
    go_wp2
    go_ret
    exact ⟨XC (by rw [HB.out, Yw (by omega)]), hb3⟩
  rw [YU (Int.not_lt.1 g2)];have p6 : w3.cell? ⟨w.heap.size, 6, none⟩ = some (.slice a6 x.fDead.length c6) := Zf hA3 6
  go_wp2_with fail
  refine (Zdb _ _ _ _ _ (by omega) (by omega) hs.s6_0).mono ?_;rintro e w4 ⟨rfl, b4⟩;rw [← HT3.out];have hA4 := Zq hA3 b4 (Nat.le_refl _);have hb4 := hb3.trans (b4.mono hb3.size);clear b4 hA3
  by_cases g3 : l - t0 - t1 - t2 < (t3 : Int)
  · rw [Yw g3]
    go_wp2
    go_ret
    exact ⟨XC (by rw [HB.out, Yw (by omega)]), hb4⟩
  rw [YU (Int.not_lt.1 g3)]
  go_wp2
  go_ret
  exact ⟨XC (by rw [HB.out, YU (by omega)]; omega), hb4⟩
theorem JR (v : Value) (x : Zb) (w : World) (hf : x.Fit) (hr : Zb.Reads w v x) :
    Calls Tryz.prog 13 #[v] w fun e w' => ∃ v', e = .returned v' ∧ Zb.Own w' w.heap.size w'.heap.size v' x ∧ Below w.heap.size w w' := by
  obtain ⟨a0, c0, a1, c1, a2, c2, a4, c4, a6, c6, rfl, r0, r1, r2, r4, r6⟩ := hr
  go_enter Tryz.func13, Tryz.ntmps13
  go_wp2_with fail
  have hb0 : Below w.heap.size w (((w.alloc (.cells #[.slice a0 x.fRows.length c0, .slice a1 x.fSpace.fRefs.length c1, .slice a2 x.fSpace.fLast.length c2, .int .i64 x.fTxg, .slice a4 x.fGone.length c4, .int .i64 x.fKeep, .slice a6 x.fDead.length c6, .bool x.fSame] 28)).alloc (.cells #[.slice none 0 0, .slice none 0 0, .slice none 0 0, .int .i64 0, .slice none 0 0, .int .i64 0, .slice none 0 0, .bool false] 40)).alloc (.cells #[.slice none 0 0, .slice none 0 0, .slice none 0 0, .int .i64 0, .slice none 0 0, .int .i64 0, .slice none 0 0, .bool false] 40)) := (((Below.refl _ _).alloc (Nat.le_refl _) _).alloc (by simp) _).alloc (by simp; omega) _;have hA0 : (((w.alloc (.cells #[.slice a0 x.fRows.length c0, .slice a1 x.fSpace.fRefs.length c1, .slice a2 x.fSpace.fLast.length c2, .int .i64 x.fTxg, .slice a4 x.fGone.length c4, .int .i64 x.fKeep, .slice a6 x.fDead.length c6, .bool x.fSame] 28)).alloc (.cells #[.slice none 0 0, .slice none 0 0, .slice none 0 0, .int .i64 0, .slice none 0 0, .int .i64 0, .slice none 0 0, .bool false] 40)).alloc (.cells #[.slice none 0 0, .slice none 0 0, .slice none 0 0, .int .i64 0, .slice none 0 0, .int .i64 0, .slice none 0 0, .bool false] 40)).heap[w.heap.size]? = some (.cells #[.slice a0 x.fRows.length c0, .slice a1 x.fSpace.fRefs.length c1, .slice a2 x.fSpace.fLast.length c2, .int .i64 x.fTxg, .slice a4 x.fGone.length c4, .int .i64 x.fKeep, .slice a6 x.fDead.length c6, .bool x.fSame] 28 (0, 0)) := YT (YT (ZZ w _ _ rfl) _) _;have hR0 : (((w.alloc (.cells #[.slice a0 x.fRows.length c0, .slice a1 x.fSpace.fRefs.length c1, .slice a2 x.fSpace.fLast.length c2, .int .i64 x.fTxg, .slice a4 x.fGone.length c4, .int .i64 x.fKeep, .slice a6 x.fDead.length c6, .bool x.fSame] 28)).alloc (.cells #[.slice none 0 0, .slice none 0 0, .slice none 0 0, .int .i64 0, .slice none 0 0, .int .i64 0, .slice none 0 0, .bool false] 40)).alloc (.cells #[.slice none 0 0, .slice none 0 0, .slice none 0 0, .int .i64 0, .slice none 0 0, .int .i64 0, .slice none 0 0, .bool false] 40)).heap[w.heap.size + 1]? = some (.cells #[.slice none 0 0, .slice none 0 0, .slice none 0 0, .int .i64 0, .slice none 0 0, .int .i64 0, .slice none 0 0, .bool false] 40 (0, 0)) := YT (ZZ _ _ (w.heap.size + 1) (by simp)) _;have hO0 : (((w.alloc (.cells #[.slice a0 x.fRows.length c0, .slice a1 x.fSpace.fRefs.length c1, .slice a2 x.fSpace.fLast.length c2, .int .i64 x.fTxg, .slice a4 x.fGone.length c4, .int .i64 x.fKeep, .slice a6 x.fDead.length c6, .bool x.fSame] 28)).alloc (.cells #[.slice none 0 0, .slice none 0 0, .slice none 0 0, .int .i64 0, .slice none 0 0, .int .i64 0, .slice none 0 0, .bool false] 40)).alloc (.cells #[.slice none 0 0, .slice none 0 0, .slice none 0 0, .int .i64 0, .slice none 0 0, .int .i64 0, .slice none 0 0, .bool false] 40)).heap[w.heap.size + 1 + 1]? = some (.cells #[.slice none 0 0, .slice none 0 0, .slice none 0 0, .int .i64 0, .slice none 0 0, .int .i64 0, .slice none 0 0, .bool false] 40 (0, 0)) := ZZ _ _ (w.heap.size + 1 + 1) (by simp);have hz0 : w.heap.size + 1 + 1 < (((w.alloc (.cells #[.slice a0 x.fRows.length c0, .slice a1 x.fSpace.fRefs.length c1, .slice a2 x.fSpace.fLast.length c2, .int .i64 x.fTxg, .slice a4 x.fGone.length c4, .int .i64 x.fKeep, .slice a6 x.fDead.length c6, .bool x.fSame] 28)).alloc (.cells #[.slice none 0 0, .slice none 0 0, .slice none 0 0, .int .i64 0, .slice none 0 0, .int .i64 0, .slice none 0 0, .bool false] 40)).alloc (.cells #[.slice none 0 0, .slice none 0 0, .slice none 0 0, .int .i64 0, .slice none 0 0, .int .i64 0, .slice none 0 0, .bool false] 40)).heap.size := YI hO0;refine (ZeI _ _ _ x.fRows _ hf.f0 (r0.below hb0)).mono ?_;rintro e w1 ⟨rfl, on0, b1⟩;have ro0 : RowO Zl 1 9 w1 _ w1.heap.size _ x.fRows := RowO.mk on0 (fun g hg => (on0.lt g hg).2)
  try simp only [Y3] at ro0
  try simp only [Ql] at ro0
  clear on0;have hbW := hb0;have hb1 := hbW.trans (b1.mono hbW.size);have hA1 : w1.heap[w.heap.size]? = some (.cells #[.slice a0 x.fRows.length c0, .slice a1 x.fSpace.fRefs.length c1, .slice a2 x.fSpace.fLast.length c2, .int .i64 x.fTxg, .slice a4 x.fGone.length c4, .int .i64 x.fKeep, .slice a6 x.fDead.length c6, .bool x.fSame] 28 (0, 0)) := Zq hA0 b1 (Nat.le_refl _);have hR1 : w1.heap[w.heap.size + 1]? = some (.cells #[.slice none 0 0, .slice none 0 0, .slice none 0 0, .int .i64 0, .slice none 0 0, .int .i64 0, .slice none 0 0, .bool false] 40 (0, 0)) := Zq hR0 b1 (Nat.le_refl _);have hO1 : w1.heap[w.heap.size + 1 + 1]? = some (.cells #[.slice none 0 0, .slice none 0 0, .slice none 0 0, .int .i64 0, .slice none 0 0, .int .i64 0, .slice none 0 0, .bool false] 40 (0, 0)) := Zq hO0 b1 (Nat.le_refl _);have hz1 : w.heap.size + 1 + 1 < w1.heap.size := YI hO1;have hs1 := b1.size
  try simp only [Y3] at hs1
  try simp only [Ql] at hs1
  clear b1 hbW hA0 hR0 hO0;have pa1 : w1.cell? ⟨w.heap.size, 1, none⟩ = some (.slice a1 x.fSpace.fRefs.length c1) := Zf hA1 1;have pa2 : w1.cell? ⟨w.heap.size, 2, none⟩ = some (.slice a2 x.fSpace.fLast.length c2) := Zf hA1 2;have po0 : w1.cell? ⟨w.heap.size + 1 + 1, 0, none⟩ = some (.slice none 0 0) := Zf hO1 0;have pf0 := ZF hO1 0
  go_wp2_with fail
  refine (ZgC _ x.fSpace _ ⟨hf.f1, hf.f2⟩ ⟨_, _, _, _, rfl, r1.below (hb1.setCell (p := ⟨w.heap.size + 1 + 1, 0, none⟩) (by simp; try omega) (.slice (some ⟨w.heap.size + 1 + 1 + 1, 0, none⟩) x.fRows.length x.fRows.length)), r2.below (hb1.setCell (p := ⟨w.heap.size + 1 + 1, 0, none⟩) (by simp; try omega) (.slice (some ⟨w.heap.size + 1 + 1 + 1, 0, none⟩) x.fRows.length x.fRows.length))⟩).mono ?_;rintro e w2 ⟨v2, rfl, ow2, b2⟩;obtain ⟨x1, y1, x2, y2, rfl, ro1, ro2, ap1_2⟩ := ow2
  try simp only [Y3, Ql] at ro1 ro2
  have hbW := (hb1.setCell (p := ⟨w.heap.size + 1 + 1, 0, none⟩) (by simp; try omega) (.slice (some ⟨w.heap.size + 1 + 1 + 1, 0, none⟩) x.fRows.length x.fRows.length));have hb2 := hbW.trans (b2.mono hbW.size);have hA2 : w2.heap[w.heap.size]? = some (.cells #[.slice a0 x.fRows.length c0, .slice a1 x.fSpace.fRefs.length c1, .slice a2 x.fSpace.fLast.length c2, .int .i64 x.fTxg, .slice a4 x.fGone.length c4, .int .i64 x.fKeep, .slice a6 x.fDead.length c6, .bool x.fSame] 28 (0, 0)) := Zq (ZG hA1 (p := ⟨w.heap.size + 1 + 1, 0, none⟩) (by simp; try omega) _) b2 (Nat.le_refl _);have hR2 : w2.heap[w.heap.size + 1]? = some (.cells #[.slice none 0 0, .slice none 0 0, .slice none 0 0, .int .i64 0, .slice none 0 0, .int .i64 0, .slice none 0 0, .bool false] 40 (0, 0)) := Zq (ZG hR1 (p := ⟨w.heap.size + 1 + 1, 0, none⟩) (by simp; try omega) _) b2 (Nat.le_refl _);have hO2 : w2.heap[w.heap.size + 1 + 1]? = some (.cells #[.slice (some ⟨w.heap.size + 1 + 1 + 1, 0, none⟩) x.fRows.length x.fRows.length, .slice none 0 0, .slice none 0 0, .int .i64 0, .slice none 0 0, .int .i64 0, .slice none 0 0, .bool false] 40 (0, 0)) := Zq (Jr hO1 (i := 0) _) b2 (Nat.le_refl _);have hz2 : w.heap.size + 1 + 1 < w2.heap.size := YI hO2;have ro0 := RowO.below (ro0.set (p := ⟨w.heap.size + 1 + 1, 0, none⟩) (by simp; try omega) (.slice (some ⟨w.heap.size + 1 + 1 + 1, 0, none⟩) x.fRows.length x.fRows.length)) b2 (Nat.le_refl _);have hs2 := b2.size
  try simp only [Y3] at hs2
  try simp only [Ql] at hs2
  clear b2 hbW hA1 hR1 hO1;clear pa1 pa2 po0 pf0;have pa3 : w2.cell? ⟨w.heap.size, 3, none⟩ = some (.int .i64 x.fTxg) := Zf hA2 3;have pa4 : w2.cell? ⟨w.heap.size, 4, none⟩ = some (.slice a4 x.fGone.length c4) := Zf hA2 4;have po1 : w2.cell? ⟨w.heap.size + 1 + 1, 1, none⟩ = some (.slice none 0 0) := Zf hO2 1;have pf1 := ZF hO2 1;have po2 : w2.cell? ⟨w.heap.size + 1 + 1, 2, none⟩ = some (.slice none 0 0) := Zf hO2 2;have pf2 := ZF hO2 2;have po3 : w2.cell? ⟨w.heap.size + 1 + 1, 3, none⟩ = some (.int .i64 0) := Zf hO2 3;have pf3 := ZF hO2 3
  go_wp2_with fail
  refine (Zdc _ _ _ x.fGone _ hf.f4 (r4.below (((hb2.setCell (p := ⟨w.heap.size + 1 + 1, 1, none⟩) (by simp; try omega) (.slice x1 x.fSpace.fRefs.length y1)).setCell (p := ⟨w.heap.size + 1 + 1, 2, none⟩) (by simp; try omega) (.slice x2 x.fSpace.fLast.length y2)).setCell (p := ⟨w.heap.size + 1 + 1, 3, none⟩) (by simp; try omega) (.int .i64 x.fTxg)))).mono ?_;rintro e w3 ⟨rfl, on4, b3⟩;have ro4 : RowO PtrD.cells 5 42 w3 _ w3.heap.size _ x.fGone := RowO.mk on4 (fun g hg => (on4.lt g hg).2)
  try simp only [Y3] at ro4
  try simp only [Ql] at ro4
  clear on4;have hbW := (((hb2.setCell (p := ⟨w.heap.size + 1 + 1, 1, none⟩) (by simp; try omega) (.slice x1 x.fSpace.fRefs.length y1)).setCell (p := ⟨w.heap.size + 1 + 1, 2, none⟩) (by simp; try omega) (.slice x2 x.fSpace.fLast.length y2)).setCell (p := ⟨w.heap.size + 1 + 1, 3, none⟩) (by simp; try omega) (.int .i64 x.fTxg));have hb3 := hbW.trans (b3.mono hbW.size);have hA3 : w3.heap[w.heap.size]? = some (.cells #[.slice a0 x.fRows.length c0, .slice a1 x.fSpace.fRefs.length c1, .slice a2 x.fSpace.fLast.length c2, .int .i64 x.fTxg, .slice a4 x.fGone.length c4, .int .i64 x.fKeep, .slice a6 x.fDead.length c6, .bool x.fSame] 28 (0, 0)) := Zq (ZG (ZG (ZG hA2 (p := ⟨w.heap.size + 1 + 1, 1, none⟩) (by simp; try omega) _) (p := ⟨w.heap.size + 1 + 1, 2, none⟩) (by simp; try omega) _) (p := ⟨w.heap.size + 1 + 1, 3, none⟩) (by simp; try omega) _) b3 (Nat.le_refl _);have hR3 : w3.heap[w.heap.size + 1]? = some (.cells #[.slice none 0 0, .slice none 0 0, .slice none 0 0, .int .i64 0, .slice none 0 0, .int .i64 0, .slice none 0 0, .bool false] 40 (0, 0)) := Zq (ZG (ZG (ZG hR2 (p := ⟨w.heap.size + 1 + 1, 1, none⟩) (by simp; try omega) _) (p := ⟨w.heap.size + 1 + 1, 2, none⟩) (by simp; try omega) _) (p := ⟨w.heap.size + 1 + 1, 3, none⟩) (by simp; try omega) _) b3 (Nat.le_refl _);have hO3 : w3.heap[w.heap.size + 1 + 1]? = some (.cells #[.slice (some ⟨w.heap.size + 1 + 1 + 1, 0, none⟩) x.fRows.length x.fRows.length, .slice x1 x.fSpace.fRefs.length y1, .slice x2 x.fSpace.fLast.length y2, .int .i64 x.fTxg, .slice none 0 0, .int .i64 0, .slice none 0 0, .bool false] 40 (0, 0)) := Zq (Jr (Jr (Jr hO2 (i := 1) _) (i := 2) _) (i := 3) _) b3 (Nat.le_refl _);have hz3 : w.heap.size + 1 + 1 < w3.heap.size := YI hO3;have ro0 := RowO.below (((ro0.set (p := ⟨w.heap.size + 1 + 1, 1, none⟩) (by simp; try omega) (.slice x1 x.fSpace.fRefs.length y1)).set (p := ⟨w.heap.size + 1 + 1, 2, none⟩) (by simp; try omega) (.slice x2 x.fSpace.fLast.length y2)).set (p := ⟨w.heap.size + 1 + 1, 3, none⟩) (by simp; try omega) (.int .i64 x.fTxg)) b3 (Nat.le_refl _);have ro1 := RowO.below (((ro1.set (p := ⟨w.heap.size + 1 + 1, 1, none⟩) (by simp; try omega) (.slice x1 x.fSpace.fRefs.length y1)).set (p := ⟨w.heap.size + 1 + 1, 2, none⟩) (by simp; try omega) (.slice x2 x.fSpace.fLast.length y2)).set (p := ⟨w.heap.size + 1 + 1, 3, none⟩) (by simp; try omega) (.int .i64 x.fTxg)) b3 (Nat.le_refl _);have ro2 := RowO.below (((ro2.set (p := ⟨w.heap.size + 1 + 1, 1, none⟩) (by simp; try omega) (.slice x1 x.fSpace.fRefs.length y1)).set (p := ⟨w.heap.size + 1 + 1, 2, none⟩) (by simp; try omega) (.slice x2 x.fSpace.fLast.length y2)).set (p := ⟨w.heap.size + 1 + 1, 3, none⟩) (by simp; try omega) (.int .i64 x.fTxg)) b3 (Nat.le_refl _);have hs3 := b3.size
  try simp only [Y3] at hs3
  try simp only [Ql] at hs3
  clear b3 hbW hA2 hR2 hO2;clear pa3 pa4 po1 pf1 po2 pf2 po3 pf3;have pa5 : w3.cell? ⟨w.heap.size, 5, none⟩ = some (.int .i64 x.fKeep) := Zf hA3 5;have pa6 : w3.cell? ⟨w.heap.size, 6, none⟩ = some (.slice a6 x.fDead.length c6) := Zf hA3 6;have po4 : w3.cell? ⟨w.heap.size + 1 + 1, 4, none⟩ = some (.slice none 0 0) := Zf hO3 4;have pf4 := ZF hO3 4;have po5 : w3.cell? ⟨w.heap.size + 1 + 1, 5, none⟩ = some (.int .i64 0) := Zf hO3 5;have pf5 := ZF hO3 5
  go_wp2_with fail
  refine (Zdc _ _ _ x.fDead _ hf.f6 (r6.below ((hb3.setCell (p := ⟨w.heap.size + 1 + 1, 4, none⟩) (by simp; try omega) (.slice (some ⟨w2.heap.size, 0, none⟩) x.fGone.length x.fGone.length)).setCell (p := ⟨w.heap.size + 1 + 1, 5, none⟩) (by simp; try omega) (.int .i64 x.fKeep)))).mono ?_;rintro e w4 ⟨rfl, on6, b4⟩;have ro6 : RowO PtrD.cells 5 42 w4 _ w4.heap.size _ x.fDead := RowO.mk on6 (fun g hg => (on6.lt g hg).2)
  try simp only [Y3] at ro6
  try simp only [Ql] at ro6
  clear on6;have hbW := ((hb3.setCell (p := ⟨w.heap.size + 1 + 1, 4, none⟩) (by simp; try omega) (.slice (some ⟨w2.heap.size, 0, none⟩) x.fGone.length x.fGone.length)).setCell (p := ⟨w.heap.size + 1 + 1, 5, none⟩) (by simp; try omega) (.int .i64 x.fKeep));have hb4 := hbW.trans (b4.mono hbW.size);have hA4 : w4.heap[w.heap.size]? = some (.cells #[.slice a0 x.fRows.length c0, .slice a1 x.fSpace.fRefs.length c1, .slice a2 x.fSpace.fLast.length c2, .int .i64 x.fTxg, .slice a4 x.fGone.length c4, .int .i64 x.fKeep, .slice a6 x.fDead.length c6, .bool x.fSame] 28 (0, 0)) := Zq (ZG (ZG hA3 (p := ⟨w.heap.size + 1 + 1, 4, none⟩) (by simp; try omega) _) (p := ⟨w.heap.size + 1 + 1, 5, none⟩) (by simp; try omega) _) b4 (Nat.le_refl _);have hR4 : w4.heap[w.heap.size + 1]? = some (.cells #[.slice none 0 0, .slice none 0 0, .slice none 0 0, .int .i64 0, .slice none 0 0, .int .i64 0, .slice none 0 0, .bool false] 40 (0, 0)) := Zq (ZG (ZG hR3 (p := ⟨w.heap.size + 1 + 1, 4, none⟩) (by simp; try omega) _) (p := ⟨w.heap.size + 1 + 1, 5, none⟩) (by simp; try omega) _) b4 (Nat.le_refl _);have hO4 : w4.heap[w.heap.size + 1 + 1]? = some (.cells #[.slice (some ⟨w.heap.size + 1 + 1 + 1, 0, none⟩) x.fRows.length x.fRows.length, .slice x1 x.fSpace.fRefs.length y1, .slice x2 x.fSpace.fLast.length y2, .int .i64 x.fTxg, .slice (some ⟨w2.heap.size, 0, none⟩) x.fGone.length x.fGone.length, .int .i64 x.fKeep, .slice none 0 0, .bool false] 40 (0, 0)) := Zq (Jr (Jr hO3 (i := 4) _) (i := 5) _) b4 (Nat.le_refl _);have hz4 : w.heap.size + 1 + 1 < w4.heap.size := YI hO4;have ro0 := RowO.below ((ro0.set (p := ⟨w.heap.size + 1 + 1, 4, none⟩) (by simp; try omega) (.slice (some ⟨w2.heap.size, 0, none⟩) x.fGone.length x.fGone.length)).set (p := ⟨w.heap.size + 1 + 1, 5, none⟩) (by simp; try omega) (.int .i64 x.fKeep)) b4 (Nat.le_refl _);have ro1 := RowO.below ((ro1.set (p := ⟨w.heap.size + 1 + 1, 4, none⟩) (by simp; try omega) (.slice (some ⟨w2.heap.size, 0, none⟩) x.fGone.length x.fGone.length)).set (p := ⟨w.heap.size + 1 + 1, 5, none⟩) (by simp; try omega) (.int .i64 x.fKeep)) b4 (Nat.le_refl _);have ro2 := RowO.below ((ro2.set (p := ⟨w.heap.size + 1 + 1, 4, none⟩) (by simp; try omega) (.slice (some ⟨w2.heap.size, 0, none⟩) x.fGone.length x.fGone.length)).set (p := ⟨w.heap.size + 1 + 1, 5, none⟩) (by simp; try omega) (.int .i64 x.fKeep)) b4 (Nat.le_refl _);have ro4 := RowO.below ((ro4.set (p := ⟨w.heap.size + 1 + 1, 4, none⟩) (by simp; try omega) (.slice (some ⟨w2.heap.size, 0, none⟩) x.fGone.length x.fGone.length)).set (p := ⟨w.heap.size + 1 + 1, 5, none⟩) (by simp; try omega) (.int .i64 x.fKeep)) b4 (Nat.le_refl _);have hs4 := b4.size
  try simp only [Y3] at hs4
  try simp only [Ql] at hs4
  clear b4 hbW hA3 hR3 hO3;clear pa5 pa6 po4 pf4 po5 pf5;have pa7 : w4.cell? ⟨w.heap.size, 7, none⟩ = some (.bool x.fSame) := Zf hA4 7;have po0 : w4.cell? ⟨w.heap.size + 1 + 1, 0, none⟩ = some (.slice (some ⟨w.heap.size + 1 + 1 + 1, 0, none⟩) x.fRows.length x.fRows.length) := Zf hO4 0;have pf0 := ZF hO4 0;have po1 : w4.cell? ⟨w.heap.size + 1 + 1, 1, none⟩ = some (.slice x1 x.fSpace.fRefs.length y1) := Zf hO4 1;have pf1 := ZF hO4 1;have po2 : w4.cell? ⟨w.heap.size + 1 + 1, 2, none⟩ = some (.slice x2 x.fSpace.fLast.length y2) := Zf hO4 2;have pf2 := ZF hO4 2;have po3 : w4.cell? ⟨w.heap.size + 1 + 1, 3, none⟩ = some (.int .i64 x.fTxg) := Zf hO4 3;have pf3 := ZF hO4 3;have po4 : w4.cell? ⟨w.heap.size + 1 + 1, 4, none⟩ = some (.slice (some ⟨w2.heap.size, 0, none⟩) x.fGone.length x.fGone.length) := Zf hO4 4;have pf4 := ZF hO4 4;have po5 : w4.cell? ⟨w.heap.size + 1 + 1, 5, none⟩ = some (.int .i64 x.fKeep) := Zf hO4 5;have pf5 := ZF hO4 5;have po6 : w4.cell? ⟨w.heap.size + 1 + 1, 6, none⟩ = some (.slice none 0 0) := Zf hO4 6;have pf6 := ZF hO4 6;have po7 : w4.cell? ⟨w.heap.size + 1 + 1, 7, none⟩ = some (.bool false) := Zf hO4 7;have pf7 := ZF hO4 7;have pr0 : w4.cell? ⟨w.heap.size + 1, 0, none⟩ = some (.slice none 0 0) := Zf hR4 0;have pg0 := ZF hR4 0;have pr1 : w4.cell? ⟨w.heap.size + 1, 1, none⟩ = some (.slice none 0 0) := Zf hR4 1;have pg1 := ZF hR4 1;have pr2 : w4.cell? ⟨w.heap.size + 1, 2, none⟩ = some (.slice none 0 0) := Zf hR4 2;have pg2 := ZF hR4 2;have pr3 : w4.cell? ⟨w.heap.size + 1, 3, none⟩ = some (.int .i64 0) := Zf hR4 3;have pg3 := ZF hR4 3;have pr4 : w4.cell? ⟨w.heap.size + 1, 4, none⟩ = some (.slice none 0 0) := Zf hR4 4;have pg4 := ZF hR4 4;have pr5 : w4.cell? ⟨w.heap.size + 1, 5, none⟩ = some (.int .i64 0) := Zf hR4 5;have pg5 := ZF hR4 5;have pr6 : w4.cell? ⟨w.heap.size + 1, 6, none⟩ = some (.slice none 0 0) := Zf hR4 6;have pg6 := ZF hR4 6;have pr7 : w4.cell? ⟨w.heap.size + 1, 7, none⟩ = some (.bool false) := Zf hR4 7;have pg7 := ZF hR4 7
  go_wp2
  refine bodyPost_ret (v := .agg #[.slice (some ⟨w.heap.size + 1 + 1 + 1, 0, none⟩) x.fRows.length x.fRows.length, .slice x1 x.fSpace.fRefs.length y1, .slice x2 x.fSpace.fLast.length y2, .int .i64 x.fTxg, .slice (some ⟨w2.heap.size, 0, none⟩) x.fGone.length x.fGone.length, .int .i64 x.fKeep, .slice (some ⟨w3.heap.size, 0, none⟩) x.fDead.length x.fDead.length, .bool x.fSame]) (by simp [results, Tryz.results13, go_sem, pr0, pr1, pr2, pr3, pr4, pr5, pr6, pr7]) rfl ?_;refine ⟨_, rfl, ⟨_, _, _, _, _, _, _, _, _, _, rfl, ?q0, ?q1, ?q2, ?q4, ?q6, ?q0_1, ?q0_2, ?q0_4, ?q0_6, ?q1_2, ?q1_4, ?q1_6, ?q2_4, ?q2_6, ?q4_6⟩, ?_⟩
  case q0 =>
    refine RowO.mono ((((((((((ro0.set ?_ _).set ?_ _).set ?_ _).set ?_ _).set ?_ _).set ?_ _).set ?_ _).set ?_ _).set ?_ _).set ?_ _) ?_ ?_
    all_goals (first | omega | (simp; done) | (simp; omega))
  case q1 =>
    refine RowO.mono ((((((((((ro1.set ?_ _).set ?_ _).set ?_ _).set ?_ _).set ?_ _).set ?_ _).set ?_ _).set ?_ _).set ?_ _).set ?_ _) ?_ ?_
    all_goals (first | omega | (simp; done) | (simp; omega))
  case q2 =>
    refine RowO.mono ((((((((((ro2.set ?_ _).set ?_ _).set ?_ _).set ?_ _).set ?_ _).set ?_ _).set ?_ _).set ?_ _).set ?_ _).set ?_ _) ?_ ?_
    all_goals (first | omega | (simp; done) | (simp; omega))
  case q4 =>
    refine RowO.mono ((((((((((ro4.set ?_ _).set ?_ _).set ?_ _).set ?_ _).set ?_ _).set ?_ _).set ?_ _).set ?_ _).set ?_ _).set ?_ _) ?_ ?_
    all_goals (first | omega | (simp; done) | (simp; omega))
  case q6 =>
    refine RowO.mono ((((((((((ro6.set ?_ _).set ?_ _).set ?_ _).set ?_ _).set ?_ _).set ?_ _).set ?_ _).set ?_ _).set ?_ _).set ?_ _) ?_ ?_
    all_goals (first | omega | (simp; done) | (simp; omega))
  case q0_1 => exact Z9.of_lt (m := w1.heap.size) (fun g hg => (ro0.lt g hg).2.1) (fun g hg => by have := (ro1.lt g hg).1; first | exact this | omega | (simp at this; omega))
  case q0_2 => exact Z9.of_lt (m := w1.heap.size) (fun g hg => (ro0.lt g hg).2.1) (fun g hg => by have := (ro2.lt g hg).1; first | exact this | omega | (simp at this; omega))
  case q0_4 => exact Z9.of_lt (m := w1.heap.size) (fun g hg => (ro0.lt g hg).2.1) (fun g hg => by have := (ro4.lt g hg).1; first | exact this | omega | (simp at this; omega))
  case q0_6 => exact Z9.of_lt (m := w1.heap.size) (fun g hg => (ro0.lt g hg).2.1) (fun g hg => by have := (ro6.lt g hg).1; first | exact this | omega | (simp at this; omega))
  case q1_2 => exact ap1_2
  case q1_4 => exact Z9.of_lt (m := w2.heap.size) (fun g hg => (ro1.lt g hg).2.1) (fun g hg => by have := (ro4.lt g hg).1; first | exact this | omega | (simp at this; omega))
  case q1_6 => exact Z9.of_lt (m := w2.heap.size) (fun g hg => (ro1.lt g hg).2.1) (fun g hg => by have := (ro6.lt g hg).1; first | exact this | omega | (simp at this; omega))
  case q2_4 => exact Z9.of_lt (m := w2.heap.size) (fun g hg => (ro2.lt g hg).2.1) (fun g hg => by have := (ro4.lt g hg).1; first | exact this | omega | (simp at this; omega))
  case q2_6 => exact Z9.of_lt (m := w2.heap.size) (fun g hg => (ro2.lt g hg).2.1) (fun g hg => by have := (ro6.lt g hg).1; first | exact this | omega | (simp at this; omega))
  case q4_6 => exact Z9.of_lt (m := w3.heap.size) (fun g hg => (ro4.lt g hg).2.1) (fun g hg => by have := (ro6.lt g hg).1; first | exact this | omega | (simp at this; omega))
  refine (Below.setCell (Below.setCell (Below.setCell (Below.setCell (Below.setCell (Below.setCell (Below.setCell (Below.setCell (Below.setCell (Below.setCell hb4 ?_ _) ?_ _) ?_ _) ?_ _) ?_ _) ?_ _) ?_ _) ?_ _) ?_ _) ?_ _)
  all_goals (first | omega | (simp; done) | (simp; omega))
theorem ZgF (u v : Value) (x : Zb) (w : World) (hf : x.Fit) (hr : Zb.Reads w u x) (hs : Zb.Reads w v x) :
    Calls Tryz.prog 17 #[u, v] w fun e w' => e = .returned (.bool true) ∧ Below w.heap.size w w' := by
  obtain ⟨a0, c0, a1, c1, a2, c2, a4, c4, a6, c6, rfl, r0, r1, r2, r4, r6⟩ := hr;obtain ⟨b0, d0, b1, d1, b2, d2, b4, d4, b6, d6, rfl, s0, s1, s2, s4, s6⟩ := hs;have hb0 : Below w.heap.size w ((w.alloc (.cells #[.slice a0 x.fRows.length c0, .slice a1 x.fSpace.fRefs.length c1, .slice a2 x.fSpace.fLast.length c2, .int .i64 x.fTxg, .slice a4 x.fGone.length c4, .int .i64 x.fKeep, .slice a6 x.fDead.length c6, .bool x.fSame] 40)).alloc (.cells #[.slice b0 x.fRows.length d0, .slice b1 x.fSpace.fRefs.length d1, .slice b2 x.fSpace.fLast.length d2, .int .i64 x.fTxg, .slice b4 x.fGone.length d4, .int .i64 x.fKeep, .slice b6 x.fDead.length d6, .bool x.fSame] 40)) := ((Below.refl _ _).alloc (Nat.le_refl _) _).alloc (by simp) _;have hA0 : ((w.alloc (.cells #[.slice a0 x.fRows.length c0, .slice a1 x.fSpace.fRefs.length c1, .slice a2 x.fSpace.fLast.length c2, .int .i64 x.fTxg, .slice a4 x.fGone.length c4, .int .i64 x.fKeep, .slice a6 x.fDead.length c6, .bool x.fSame] 40)).alloc (.cells #[.slice b0 x.fRows.length d0, .slice b1 x.fSpace.fRefs.length d1, .slice b2 x.fSpace.fLast.length d2, .int .i64 x.fTxg, .slice b4 x.fGone.length d4, .int .i64 x.fKeep, .slice b6 x.fDead.length d6, .bool x.fSame] 40)).heap[w.heap.size]? = some (.cells #[.slice a0 x.fRows.length c0, .slice a1 x.fSpace.fRefs.length c1, .slice a2 x.fSpace.fLast.length c2, .int .i64 x.fTxg, .slice a4 x.fGone.length c4, .int .i64 x.fKeep, .slice a6 x.fDead.length c6, .bool x.fSame] 40 (0, 0)) := YT (ZZ w _ _ rfl) _;have hB0 : ((w.alloc (.cells #[.slice a0 x.fRows.length c0, .slice a1 x.fSpace.fRefs.length c1, .slice a2 x.fSpace.fLast.length c2, .int .i64 x.fTxg, .slice a4 x.fGone.length c4, .int .i64 x.fKeep, .slice a6 x.fDead.length c6, .bool x.fSame] 40)).alloc (.cells #[.slice b0 x.fRows.length d0, .slice b1 x.fSpace.fRefs.length d1, .slice b2 x.fSpace.fLast.length d2, .int .i64 x.fTxg, .slice b4 x.fGone.length d4, .int .i64 x.fKeep, .slice b6 x.fDead.length d6, .bool x.fSame] 40)).heap[w.heap.size + 1]? = some (.cells #[.slice b0 x.fRows.length d0, .slice b1 x.fSpace.fRefs.length d1, .slice b2 x.fSpace.fLast.length d2, .int .i64 x.fTxg, .slice b4 x.fGone.length d4, .int .i64 x.fKeep, .slice b6 x.fDead.length d6, .bool x.fSame] 40 (0, 0)) := ZZ _ _ (w.heap.size + 1) (by simp)
  go_enter Tryz.func17, Tryz.ntmps17
  go_wp2_with fail
  refine (ZeJ _ _ _ _ _ x.fRows _ hf.f0 (r0.below hb0) (s0.below hb0)).mono ?_;rintro e w1 ⟨rfl, b1⟩;have hb1 := hb0.trans (b1.mono hb0.size);have hA1 := Zq hA0 b1 (Nat.le_refl _);have hB1 := Zq hB0 b1 (Nat.le_refl _);clear b1 hA0 hB0;have p1 : w1.cell? ⟨w.heap.size, 1, none⟩ = some (.slice a1 x.fSpace.fRefs.length c1) := Zf hA1 1;have q1 : w1.cell? ⟨w.heap.size + 1, 1, none⟩ = some (.slice b1 x.fSpace.fRefs.length d1) := Zf hB1 1;have p2 : w1.cell? ⟨w.heap.size, 2, none⟩ = some (.slice a2 x.fSpace.fLast.length c2) := Zf hA1 2;have q2 : w1.cell? ⟨w.heap.size + 1, 2, none⟩ = some (.slice b2 x.fSpace.fLast.length d2) := Zf hB1 2
  go_wp2_with fail
  refine (ZgD _ _ x.fSpace _ ⟨hf.f1, hf.f2⟩ ⟨_, _, _, _, rfl, r1.below hb1, r2.below hb1⟩ ⟨_, _, _, _, rfl, s1.below hb1, s2.below hb1⟩).mono ?_;rintro e w2 ⟨rfl, b2⟩;have hb2 := hb1.trans (b2.mono hb1.size);have hA2 := Zq hA1 b2 (Nat.le_refl _);have hB2 := Zq hB1 b2 (Nat.le_refl _);clear b2 hA1 hB1;clear p1 q1 p2 q2;have p3 : w2.cell? ⟨w.heap.size, 3, none⟩ = some (.int .i64 x.fTxg) := Zf hA2 3;have q3 : w2.cell? ⟨w.heap.size + 1, 3, none⟩ = some (.int .i64 x.fTxg) := Zf hB2 3;have p4 : w2.cell? ⟨w.heap.size, 4, none⟩ = some (.slice a4 x.fGone.length c4) := Zf hA2 4;have q4 : w2.cell? ⟨w.heap.size + 1, 4, none⟩ = some (.slice b4 x.fGone.length d4) := Zf hB2 4
  go_wp2_with fail
  refine (Zdd _ _ _ _ _ x.fGone _ hf.f4 (r4.below hb2) (s4.below hb2)).mono ?_;rintro e w3 ⟨rfl, b3⟩;have hb3 := hb2.trans (b3.mono hb2.size);have hA3 := Zq hA2 b3 (Nat.le_refl _);have hB3 := Zq hB2 b3 (Nat.le_refl _);clear b3 hA2 hB2;clear p3 q3 p4 q4;have p5 : w3.cell? ⟨w.heap.size, 5, none⟩ = some (.int .i64 x.fKeep) := Zf hA3 5;have q5 : w3.cell? ⟨w.heap.size + 1, 5, none⟩ = some (.int .i64 x.fKeep) := Zf hB3 5;have p6 : w3.cell? ⟨w.heap.size, 6, none⟩ = some (.slice a6 x.fDead.length c6) := Zf hA3 6;have q6 : w3.cell? ⟨w.heap.size + 1, 6, none⟩ = some (.slice b6 x.fDead.length d6) := Zf hB3 6
  go_wp2_with fail
  refine (Zdd _ _ _ _ _ x.fDead _ hf.f6 (r6.below hb3) (s6.below hb3)).mono ?_;rintro e w4 ⟨rfl, b4⟩;have hb4 := hb3.trans (b4.mono hb3.size);have hA4 := Zq hA3 b4 (Nat.le_refl _);have hB4 := Zq hB3 b4 (Nat.le_refl _);clear b4 hA3 hB3;clear p5 q5 p6 q6;have p7 : w4.cell? ⟨w.heap.size, 7, none⟩ = some (.bool x.fSame) := Zf hA4 7;have q7 : w4.cell? ⟨w.heap.size + 1, 7, none⟩ = some (.bool x.fSame) := Zf hB4 7
  go_wp2
  go_ret
  exact ⟨rfl, hb4⟩
open Go.RowKit
def cnt (ps : List PtrD) (i : Nat) : Nat := (ps.filter fun p => p.fAt == (i : Int)).length
theorem Zdi (ps : List PtrD) (p : PtrD) (i : Nat) : cnt (ps ++ [p]) i = cnt ps i + if p.fAt = (i : Int) then 1 else 0 := by
  unfold cnt;rw [List.filter_append, List.length_append]
  by_cases h : p.fAt = (i : Int) <;> simp [h]
theorem Zf0 (ps : List PtrD) (i : Nat) : cnt ps i ≤ ps.length := List.length_filter_le _ _
theorem ZhX (a b : List PtrD) (i : Nat) : cnt (a ++ b) i = cnt a i + cnt b i := by simp [cnt, List.filter_append]
theorem ZkB (ps : List PtrD) (k i : Nat) : cnt (ps.take k) i ≤ cnt ps i := by
  have h := ZhX (ps.take k) (ps.drop k) i;rw [List.take_append_drop] at h; omega
def YV (ps : List PtrD) : List Value := (List.range 64).map fun i => .int .i64 (cnt ps i : Nat)
theorem Js (ps : List PtrD) : (YV ps).length = 64 := by simp [YV]
theorem Xq (ps : List PtrD) (i : Nat) (h : i < 64) : (YV ps)[i]? = some (.int .i64 (cnt ps i : Nat)) := by simp [YV, h]
theorem J6 (ps : List PtrD) (p : PtrD) (a : Nat) (ha : p.fAt = (a : Int)) (h : a < 64) : (YV ps).set a (.int .i64 ((cnt ps a : Nat) + 1)) = YV (ps ++ [p]) := by
  apply List.ext_getElem?
  intro i
  by_cases hi : i < 64
  · rw [Xq _ _ hi, Zdi, List.getElem?_set]
    by_cases hai : a = i
    · subst hai
      simp [Js, h, ha]
    · rw [if_neg hai, Xq _ _ hi, if_neg (by rw [ha]; omega)]
      simp
  · rw [List.getElem?_eq_none (by rw [List.length_set, Js]; omega), List.getElem?_eq_none (by rw [Js]; omega)]
def YD (p : PtrD) (most : Int) : Bool := p.ok && (!p.hole && decide (p.fBirth ≤ most))
def Xl (st : Zb) (i : Nat) : Bool := decide ((st.fRows.getD i ByteArray.empty).size ≤ 128) && (((st.fRows.getD i ByteArray.empty).size == 0) == (st.fSpace.fRefs.getD i 0 == 0) && decide (st.fSpace.fLast.getD i 0 ≤ st.fTxg))
def XL (st : Zb) (k : Nat) : Bool := (List.range k).all fun i => Xl st i
theorem Zch (st : Zb) (k : Nat) : XL st (k + 1) = (XL st k && Xl st k) := by simp [XL, List.range_succ]
theorem ZbG {st : Zb} {k m : Nat} (h : XL st m = true) (hk : k < m) : Xl st k = true := by
  simp only [XL, List.all_eq_true] at h;exact h k (List.mem_range.2 hk)
theorem Zdj {st : Zb} {k m : Nat} (hk : k < m) (h : Xl st k = false) : XL st m = false := by
  cases hm : XL st m with
  | false => rfl
  | true => rw [ZbG hm hk] at h; cases h
def Qc (refs : List Int) (ps : List PtrD) : Bool := (List.range 64).all fun i => decide ((cnt ps i : Int) ≤ refs.getD i 0)
def Zb.ok (st : Zb) : Bool :=
  st.fRows.length == 64 && (st.fSpace.ok && (inB st.fTxg 1 900 && (inB st.fKeep 0 (st.fTxg - 1) && (XL st 64 &&
    (st.fGone.all (fun p => YD p (st.fTxg - 1)) && (st.fDead.all (fun p => YD p st.fKeep) && Qc st.fSpace.fRefs (st.fGone ++ st.fDead)))))))
def UY (st : Zb) (j : Nat) : Option PtrD := (st.fGone ++ st.fDead)[j]?
def JB (st : Zb) (j : Nat) : Int := if j < st.fGone.length then st.fTxg - 1 else st.fKeep
structure UZ (st : Zb) (j : Nat) : Prop where
  each : ∀ i p, i < j → UY st i = some p → YD p (JB st i) = true
  few : ∀ i, i < 64 → 0 < cnt ((st.fGone ++ st.fDead).take j) i → (cnt ((st.fGone ++ st.fDead).take j) i : Int) ≤ st.fSpace.fRefs.getD i 0
theorem UZ.zero (st : Zb) : UZ st 0 := ⟨fun i p h => absurd h (Nat.not_lt_zero _), fun i hi h => by simp [cnt] at h⟩
theorem ZaM {p : PtrD} {m : Int} (h : YD p m = true) : 8 ≤ p.fAt ∧ p.fAt ≤ 63 ∧ p.fBirth ≤ m ∧ 1 ≤ p.fBirth ∧ p.fBirth ≤ 900 := by
  simp only [YD, PtrD.ok, Bool.and_eq_true, Bool.or_eq_true, Bool.not_eq_true', decide_eq_true_eq] at h;obtain ⟨h1, h2, h3⟩ := h;rw [h2] at h1;rcases h1 with h1 | h1
  · cases h1
  · obtain ⟨⟨⟨⟨a, b⟩, _⟩, _⟩, _⟩ := h1
    have := ZB a;have := ZB b
    omega
theorem UZ.succ {st : Zb} {j : Nat} (h : UZ st j) {p : PtrD} (hp : UY st j = some p) (hin : YD p (JB st j) = true) (a : Nat) (ha : p.fAt = (a : Int)) (hle : ((cnt ((st.fGone ++ st.fDead).take j) a + 1 : Nat) : Int) ≤ st.fSpace.fRefs.getD a 0) : UZ st (j + 1) := by
  obtain ⟨hj, hpe⟩ := List.getElem?_eq_some_iff.1 hp;have hs : (st.fGone ++ st.fDead).take (j + 1) = (st.fGone ++ st.fDead).take j ++ [p] := by rw [List.take_succ_eq_append_getElem hj, hpe]
  refine ⟨fun i q hi hq => ?_, fun i hi hc => ?_⟩
  · by_cases hij : i = j
    · subst hij
      obtain rfl := Option.some.inj (hp.symm.trans hq);exact hin
    · exact h.each i q (by omega) hq
  · rw [hs, Zdi] at hc ⊢
    by_cases hai : p.fAt = (i : Int)
    · have : a = i := by omega
      subst this;rw [if_pos hai];exact hle
    · rw [if_neg hai] at hc ⊢
      exact h.few i hi hc
theorem UZ.all {st : Zb} (h : UZ st (st.fGone ++ st.fDead).length) (hr : ∀ i, i < 64 → 0 ≤ st.fSpace.fRefs.getD i 0) :
    (st.fGone.all (fun p => YD p (st.fTxg - 1)) && (st.fDead.all (fun p => YD p st.fKeep) && Qc st.fSpace.fRefs (st.fGone ++ st.fDead))) = true := by
  rw [Bool.and_eq_true, Bool.and_eq_true];refine ⟨List.all_eq_true.2 fun p hp => ?_, List.all_eq_true.2 fun p hp => ?_, List.all_eq_true.2 fun i hi => ?_⟩
  · obtain ⟨i, hi, hpe⟩ := List.mem_iff_getElem.1 hp
    have := h.each i p (by rw [List.length_append]; omega) (by unfold UY; rw [List.getElem?_append_left hi, List.getElem?_eq_getElem hi, hpe])
    rwa [JB, if_pos hi] at this
  · obtain ⟨i, hi, hpe⟩ := List.mem_iff_getElem.1 hp
    have := h.each (st.fGone.length + i) p (by rw [List.length_append]; omega) (by unfold UY; rw [List.getElem?_append_right (by omega), Nat.add_sub_cancel_left, List.getElem?_eq_getElem hi, hpe])
    rwa [JB, if_neg (by omega)] at this
  · have hi' := List.mem_range.1 hi
    simp only [decide_eq_true_eq]
    by_cases hc : 0 < cnt (st.fGone ++ st.fDead) i
    · have := h.few i hi' (by rw [List.take_of_length_le (Nat.le_refl _)]; exact hc)
      rwa [List.take_of_length_le (Nat.le_refl _)] at this
    · have := hr i hi'
      omega
theorem Ze3 {st : Zb} {j : Nat} {p : PtrD} (hp : UY st j = some p) (hin : YD p (JB st j) = false) : st.ok = false := by
  obtain ⟨hj, hpe⟩ := List.getElem?_eq_some_iff.1 hp;unfold Zb.ok
  by_cases hg : j < st.fGone.length
  · have hm : p ∈ st.fGone := by rw [← hpe, List.getElem_append_left hg]; exact List.getElem_mem _
    have : st.fGone.all (fun p => YD p (st.fTxg - 1)) = false := by
      rw [List.all_eq_false];exact ⟨p, hm, by rw [JB, if_pos hg] at hin; simp [hin]⟩
    simp [this]
  · have hlt : j - st.fGone.length < st.fDead.length := by rw [List.length_append] at hj; omega
    have hm : p ∈ st.fDead := by rw [← hpe, List.getElem_append_right (by omega)]; exact List.getElem_mem _
    have : st.fDead.all (fun p => YD p st.fKeep) = false := by
      rw [List.all_eq_false];exact ⟨p, hm, by rw [JB, if_neg hg] at hin; simp [hin]⟩
    simp [this]
theorem Zdk {st : Zb} {j : Nat} {p : PtrD} (hp : UY st j = some p) (a : Nat) (ha : p.fAt = (a : Int)) (h64 : a < 64) (hlt : st.fSpace.fRefs.getD a 0 < ((cnt ((st.fGone ++ st.fDead).take j) a + 1 : Nat) : Int)) : st.ok = false := by
  obtain ⟨hj, hpe⟩ := List.getElem?_eq_some_iff.1 hp;have hs : (st.fGone ++ st.fDead).take (j + 1) = (st.fGone ++ st.fDead).take j ++ [p] := by rw [List.take_succ_eq_append_getElem hj, hpe]
  have h1 := ZkB (st.fGone ++ st.fDead) (j + 1) a;rw [hs, Zdi, if_pos ha] at h1;have : Qc st.fSpace.fRefs (st.fGone ++ st.fDead) = false := by
    unfold Qc;rw [List.all_eq_false];exact ⟨a, List.mem_range.2 h64, by simp only [decide_eq_true_eq]; omega⟩
  unfold Zb.ok;simp [this]
structure Zop (st : Zb) : Prop where
  rows : st.fRows.length = 64
  space : st.fSpace.ok = true
  txg : 1 ≤ st.fTxg ∧ st.fTxg ≤ 900
  keep : 0 ≤ st.fKeep ∧ st.fKeep ≤ st.fTxg - 1
  each : XL st 64 = true
  gone : st.fGone.all (fun p => YD p (st.fTxg - 1)) = true
  dead : st.fDead.all (fun p => YD p st.fKeep) = true
  owed : Qc st.fSpace.fRefs (st.fGone ++ st.fDead) = true
theorem Zb.ok_spec {st : Zb} (h : st.ok = true) : Zop st := by
  simp only [Zb.ok, Bool.and_eq_true, beq_iff_eq] at h;obtain ⟨h1, h2, h3, h4, h5, h6, h7, h8⟩ := h;exact ⟨h1, h2, ZB h3, ZB h4, h5, h6, h7, h8⟩
structure Zoq (s : Zt) : Prop where
  refs : s.fRefs.length = 64
  last : s.fLast.length = 64
  each : ∀ i, i < 64 → 0 ≤ s.fRefs.getD i 0 ∧ s.fRefs.getD i 0 ≤ s.fLast.getD i 0 ∧ s.fLast.getD i 0 ≤ 900 ∧ (s.fRefs.getD i 0 = 0 → s.fLast.getD i 0 = 0) ∧ (i < 8 → s.fRefs.getD i 0 = 0)
theorem Zt.ok_spec {s : Zt} (h : s.ok = true) : Zoq s := by
  simp only [Zt.ok, Bool.and_eq_true, beq_iff_eq] at h;obtain ⟨⟨h1, h2⟩, h3⟩ := h;refine ⟨h1, h2, fun i hi => ?_⟩;have h4 := Ze2 h3 hi;rw [ZbF hi] at h4;simp only [XK, Bool.and_eq_true, Bool.or_eq_true, decide_eq_true_eq, bne_iff_ne, beq_iff_eq, Bool.not_eq_true', decide_eq_false_iff_not] at h4;obtain ⟨h5, h6, h7, h8⟩ := h4;have := ZB h5;have := ZB h6;refine ⟨by omega, by omega, by omega, fun h0 => ?_, fun h0 => ?_⟩
  · rcases h7 with h7 | h7
    · exact absurd h0 h7
    · exact h7
  · rcases h8 with h8 | h8
    · omega
    · omega
theorem Ze4 (ps : List PtrD) : (madeCells (Value.int .i64 0).cells (64 * 1)).toList = YV (ps.take 0) := by
  show (madeCells #[Value.int .i64 0] 64).toList = _;rw [toList_madeCells_one]
  apply List.ext_getElem?
  intro i
  by_cases hi : i < 64
  · rw [Xq _ _ hi, List.getElem?_replicate, if_pos hi]; simp [cnt]
  · rw [List.getElem?_eq_none (by rw [List.length_replicate]; omega), List.getElem?_eq_none (by rw [Js]; omega)]
end Go.Proofs.YtigjfacaofgjjaaGreatDoor
