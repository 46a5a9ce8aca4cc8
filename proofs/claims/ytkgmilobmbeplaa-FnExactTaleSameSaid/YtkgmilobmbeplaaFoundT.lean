/- The laws' helpers over names and things. -/
import Derived.Test.YtkgmilobmbeplaaRows
import Derived.Test.YtkgmilobmbeplaaMem
import Derived.StillTailTactics
import Derived.BigQuiet
import Derived.Deep.QuietTactic
import Derived.Deep.RegionWith
namespace Go.Proofs.Ytkgmilobmbeplaa
open Go.RowKit

structure FoundD where
  fPath : ByteArray
  fId : Int
def FoundD.cells (x : FoundD) : List Value := [.string x.fPath, .int .i64 x.fId]
theorem FoundD.cells_len (x : FoundD) : x.cells.length = 2 := rfl
theorem FoundD.at_ {w : World} {b o : Nat} {x : FoundD} (h : w.rangeAt b o x.cells) :
    w.cell? ⟨b, o, none⟩ = some (.string x.fPath) ∧ w.cell? ⟨b, o + 1, none⟩ = some (.int .i64 x.fId) :=
  ⟨h 0 _ rfl, h 1 _ rfl⟩

def FoundD.bulk (x : FoundD) : Nat := x.fPath.size
set_option maxHeartbeats 400000 in
set_option maxRecDepth 100000 in
theorem szFound_any (x : FoundD) (l : Int) (w : World) (hl0 : 0 ≤ l) (hl1 : l ≤ 1048576) (hs0 : x.fPath.size ≤ 9223372036854775807) :
    Calls Try.prog 144 #[.agg #[.string x.fPath, .int .i64 x.fId], .int .i64 l] w fun e w' => e = .returned (.int .i64 (leftOf l x.bulk)) ∧ Below w.heap.size w w' := by
  by_cases h0 : l < (x.fPath.size : Nat)
  · have H := Lib.hid (leftOf_no (l := l) (n := x.bulk) (by simp only [FoundD.bulk]; omega))
    go_enter Try.func144, Try.ntmps144
    go_wp2
    go_ret
    exact ⟨ret_int H.out.symm, (Below.refl _ _).alloc (Nat.le_refl _) _⟩
  have H := Lib.hid (leftOf_yes (l := l) (n := x.bulk) (by simp only [FoundD.bulk]; omega))
  go_enter Try.func144, Try.ntmps144
  go_wp2
  go_ret
  exact ⟨ret_int (by rw [H.out]; simp only [FoundD.bulk]; try omega), (Below.refl _ _).alloc (Nat.le_refl _) _⟩
set_option maxHeartbeats 400000 in
set_option maxRecDepth 100000 in
theorem toFound_any (x : FoundD) (w : World) :
    Calls Try.prog 146 #[.agg #[.string x.fPath, .int .i64 x.fId]] w fun e w' => e = .returned (.agg #[.string x.fPath, .int .i64 x.fId]) ∧ Below w.heap.size w w' := by
  go_enter Try.func146, Try.ntmps146
  go_wp2
  refine bodyPost_ret (v := .agg #[.string x.fPath, .int .i64 x.fId]) (by simp [results, Try.results146, go_sem]) rfl ⟨rfl, ?_⟩
  exact (((Below.refl _ _).alloc (Nat.le_refl _) _).alloc (by simp) _).alloc (by simp; omega) _
set_option maxHeartbeats 400000 in
set_option maxRecDepth 100000 in
theorem eqFound_yes (x : FoundD) (w : World) :
    Calls Try.prog 148 #[.agg #[.string x.fPath, .int .i64 x.fId], .agg #[.string x.fPath, .int .i64 x.fId]] w fun e w' => e = .returned (.bool true) ∧ Below w.heap.size w w' := by
  go_enter Try.func148, Try.ntmps148
  go_wp2
  go_ret
  exact ⟨rfl, ((Below.refl _ _).alloc (Nat.le_refl _) _).alloc (by simp) _⟩
set_option maxHeartbeats 400000 in
set_option maxRecDepth 100000 in
theorem szFoundS_any (ao : Option Addr) (len cap : Nat) (xs : List FoundD) (l : Int) (w : World) (hl0 : 0 ≤ l) (hl1 : l ≤ 1048576) (hlen : len ≤ 9223372036854775807) (hr : Rd FoundD.cells 2 w ao len xs) (hs : ∀ x ∈ xs, x.fPath.size ≤ 9223372036854775807) :
    Calls Try.prog 136 #[.slice ao len cap, .int .i64 l] w fun e w' => e = .returned (.int .i64 (leftOf l (len + tot FoundD.bulk xs))) ∧ Below w.heap.size w w' := by
  by_cases hln : l < len
  · rw [leftOf_no (by omega)]
    go_enter Try.func136, Try.ntmps136
    go_wp2
    go_ret
    exact ⟨rfl, Below.refl _ _⟩
  · go_enter Try.func136, Try.ntmps136
    go_wp2
    go_loopw [1,5] (fun l' i wr => ∃ k : Nat, k ≤ len ∧ i = .int .i64 k ∧ (len + tot FoundD.bulk (xs.take k) : Nat) ≤ l ∧ l' = .int .i64 (l - (len + tot FoundD.bulk (xs.take k) : Nat)) ∧ Below w.heap.size w wr) (fun _ i _ => len - (intOf i).toNat)
    case atStart => exact ⟨0, Nat.zero_le _, rfl, by simp [tot]; omega, by simp [tot], Below.refl _ _⟩
    case round =>
      obtain ⟨k, hk, rfl, hle, rfl, hb⟩ := hrel
      by_cases hlt : k < len
      · have hkx : k < xs.length := by rw [hr.len]; exact hlt
        obtain ⟨b, off, x, hx0, rfl, hbl, hrg⟩ := hr.at_ k hkx
        obtain ⟨c0, c1⟩ := FoundD.at_ (rangeAt_below hrg hb hbl)
        have hsk0 := hs _ (List.mem_of_getElem? hx0)
        have H1 := Lib.hid (tot_take FoundD.bulk xs k hx0)
        clear hx0
        have hle2 := tot_take_le FoundD.bulk xs (k + 1)
        have hcall := szFound_any x (l - (len + tot FoundD.bulk (xs.take k) : Nat)) wr (by omega) (by omega) hsk0
        by_cases hc : l - (len + tot FoundD.bulk (xs.take k) : Nat) < (x.bulk : Nat)
        · rw [leftOf_no hc] at hcall
          have HC := Lib.hid hcall
          clear hcall
          go_wp2_with fail
          refine HC.out.mono ?_
          rintro e w' ⟨rfl, hb'⟩
          go_wp2
          go_ret
          exact ⟨ret_int (by rw [leftOf_no (by have := H1.out; omega)]), hb.trans (hb'.mono hb.size)⟩
        · rw [leftOf_yes (by omega)] at hcall
          have HC := Lib.hid hcall
          clear hcall
          go_wp2_with fail
          refine HC.out.mono ?_
          rintro e w' ⟨rfl, hb'⟩
          go_wp2
          go_roundw
          case rel => exact ⟨k + 1, by omega, by go_num, by rw [H1.out]; omega, by rw [H1.out]; congr 1; omega, hb.trans (hb'.mono hb.size)⟩
          case measure => simp [intOf]; omega
      · have hk' : k = len := by omega
        subst hk'
        have ht := Lib.hid (List.take_of_length_le (l := xs) (i := k) (by rw [hr.len]; exact Nat.le_refl _))
        rw [ht.out] at hle
        go_wp2
        go_ret
        rw [ht.out]
        exact ⟨ret_int (by rw [leftOf_yes hle]), hb⟩

theorem Try.infoFoundS : (Try.prog.info? 160).map (fun i => (i.zero, i.size, i.bytes)) = some (some (.agg #[.string ByteArray.empty, .int .i64 0]), 2, 24) := by kernel_rfl
set_option maxHeartbeats 400000 in
set_option maxRecDepth 100000 in
theorem toFoundS_any (ao : Option Addr) (len cap : Nat) (xs : List FoundD) (w : World) (hlen : len ≤ 1048576) (hr : Rd FoundD.cells 2 w ao len xs) :
    Calls Try.prog 138 #[.slice ao len cap] w fun e w' => e = .returned (.slice (some ⟨w.heap.size, 0, none⟩) len len) ∧ w'.ownsRow w.heap.size 160 2 (.slice (some ⟨w.heap.size, 0, none⟩) len len) xs.length (xs.flatMap FoundD.cells) ∧ Below w.heap.size w w' := by
  obtain ⟨i0, hi, hz0, hz1, hz2⟩ := info_parts Try.infoFoundS
  go_enter Try.func138, Try.ntmps138
  go_wp2_with (refine wpList_make_full _ rfl (.tmp 6) (.tmp 6) 94 rfl w.heap.size 160 i0 _ 2 Try.underlying94 hi hz0 hz1 .i64 .i64 _ _ len rfl rfl rfl rfl ?b2 ?b3 ?b4 ?_)
  case b2 => rw [hz2]; omega
  case b3 => unfold maxLen; omega
  case b4 => exact Nat.le_refl _
  intro w1 hown hg
  have hb0 : Below w.heap.size w w1 := (Below.refl _ _).grown hg (Nat.le_refl _) (by simp)
  have hs1 : w.heap.size + 1 ≤ w1.heap.size := (hown.lt w.heap.size (by simp [Value.ownBlock])).2
  have hfill := Fill.start (xs := xs) (enc := FoundD.cells) hown
  clear hown
  go_wp2
  go_loopw [4] (fun i wr => ∃ k : Nat, k ≤ len ∧ i = .int .i64 k ∧ Fill FoundD.cells 2 w.heap.size 160 wr w.heap.size len xs k ∧ Below w.heap.size w wr ∧ w.heap.size + 1 ≤ wr.heap.size) (fun i _ => len - (intOf i).toNat)
  case atStart => exact ⟨0, Nat.zero_le _, rfl, hfill, hb0, hs1⟩
  case round =>
    obtain ⟨k, hk, rfl, hf, hb, hsz⟩ := hrel
    by_cases hlt : k < len
    · have hkx : k < xs.length := by rw [hr.len]; exact hlt
      obtain ⟨b, off, x, hx0, rfl, hbl, hrg⟩ := hr.at_ k hkx
      obtain ⟨c0, c1⟩ := FoundD.at_ (rangeAt_below hrg hb hbl)
      have hx := Lib.hid hx0
      clear hx0
      go_wp2_with fail
      refine (toFound_any x _).mono ?_
      rintro e w2 ⟨rfl, hb2⟩
      have hf2 := hf.below hb2 (Nat.le_refl _)
      have ht2 := Fill.there FoundD.cells_len hf2 hr.len hlt
      obtain ⟨hf3, hg3⟩ := Fill.step FoundD.cells_len hf2 hr.len hx.out
      go_wp2_with (refine wpList_store_mid rfl 160 (.tmp 21) (.tmp 20) rfl w.heap.size (k * 2) _ rfl rfl ?c0 ?c1 ?c2 ?_)
      case c0 => exact ht2
      case c1 => kernel_rfl
      case c2 => simp [Value.oneCell']
      go_roundw
      case rel => exact ⟨k + 1, by omega, by go_num, hf3, (hb.trans (hb2.mono hb.size)).grown hg3 (by have := hb2.size; omega) (by intro j hj; cases hj; exact Nat.le_refl _), by have h3 := hg3.size; simp only [FoundD.cells] at h3; have := hb2.size; omega⟩
      case measure => simp [intOf]; omega
    · have hk' : k = len := by omega
      subst hk'
      go_wp2
      go_ret
      exact ⟨rfl, Fill.done hf hr.len, hb⟩

set_option maxHeartbeats 400000 in
set_option maxRecDepth 100000 in
theorem eqFoundS_yes (ao bo : Option Addr) (len cap cap2 : Nat) (xs : List FoundD) (w : World) (hlen : len ≤ 1048576) (hr : Rd FoundD.cells 2 w ao len xs) (hr2 : Rd FoundD.cells 2 w bo len xs) :
    Calls Try.prog 140 #[.slice ao len cap, .slice bo len cap2] w fun e w' => e = .returned (.bool true) ∧ Below w.heap.size w w' := by
  go_enter Try.func140, Try.ntmps140
  go_wp2
  go_loopw [5] (fun i wr => ∃ k : Nat, k ≤ len ∧ i = .int .i64 k ∧ Below w.heap.size w wr) (fun i _ => len - (intOf i).toNat)
  case atStart => exact ⟨0, Nat.zero_le _, rfl, Below.refl _ _⟩
  case round =>
    obtain ⟨k, hk, rfl, hb⟩ := hrel
    by_cases hlt : k < len
    · have hkx : k < xs.length := by rw [hr.len]; exact hlt
      obtain ⟨b, off, x, hx0, rfl, hbl, hrg⟩ := hr.at_ k hkx
      obtain ⟨c0, c1⟩ := FoundD.at_ (rangeAt_below hrg hb hbl)
      obtain ⟨b2, off2, x2, hx2, rfl, hbl2, hrg2⟩ := hr2.at_ k hkx
      obtain rfl : x = x2 := Option.some.inj (hx0.symm.trans hx2)
      obtain ⟨d0, d1⟩ := FoundD.at_ (rangeAt_below hrg2 hb hbl2)
      clear hx0 hx2
      go_wp2_with fail
      go_still_tail 8, (by kernel_rfl)
      change wpList _ _ _ _ _ wr.drew
      have hb1 := hb.drew
      have hsz := hb1.size
      generalize wr.drew = w1 at hb1 hsz ⊢
      go_wp2_with fail
      refine (eqFound_yes x _).mono ?_
      rintro e w2 ⟨rfl, hb2⟩
      go_wp2
      go_roundw
      case rel => exact ⟨k + 1, by omega, by go_num, hb1.trans (hb2.mono hsz)⟩
      case measure => simp [intOf]; omega
    · go_wp2
      go_ret
      exact ⟨rfl, hb⟩
structure ThingD where
  fId : Int
  fFolder : Bool
  fText : ByteArray
def ThingD.cells (x : ThingD) : List Value := [.int .i64 x.fId, .bool x.fFolder, .string x.fText]
theorem ThingD.cells_len (x : ThingD) : x.cells.length = 3 := rfl
theorem ThingD.at_ {w : World} {b o : Nat} {x : ThingD} (h : w.rangeAt b o x.cells) :
    w.cell? ⟨b, o, none⟩ = some (.int .i64 x.fId) ∧ w.cell? ⟨b, o + 1, none⟩ = some (.bool x.fFolder) ∧ w.cell? ⟨b, o + 2, none⟩ = some (.string x.fText) :=
  ⟨h 0 _ rfl, h 1 _ rfl, h 2 _ rfl⟩

def ThingD.bulk (x : ThingD) : Nat := x.fText.size
set_option maxHeartbeats 400000 in
set_option maxRecDepth 100000 in
theorem szThing_any (x : ThingD) (l : Int) (w : World) (hl0 : 0 ≤ l) (hl1 : l ≤ 1048576) (hs0 : x.fText.size ≤ 9223372036854775807) :
    Calls Try.prog 145 #[.agg #[.int .i64 x.fId, .bool x.fFolder, .string x.fText], .int .i64 l] w fun e w' => e = .returned (.int .i64 (leftOf l x.bulk)) ∧ Below w.heap.size w w' := by
  by_cases h0 : l < (x.fText.size : Nat)
  · have H := Lib.hid (leftOf_no (l := l) (n := x.bulk) (by simp only [ThingD.bulk]; omega))
    go_enter Try.func145, Try.ntmps145
    go_wp2
    go_ret
    exact ⟨ret_int H.out.symm, (Below.refl _ _).alloc (Nat.le_refl _) _⟩
  have H := Lib.hid (leftOf_yes (l := l) (n := x.bulk) (by simp only [ThingD.bulk]; omega))
  go_enter Try.func145, Try.ntmps145
  go_wp2
  go_ret
  exact ⟨ret_int (by rw [H.out]; simp only [ThingD.bulk]; try omega), (Below.refl _ _).alloc (Nat.le_refl _) _⟩
set_option maxHeartbeats 400000 in
set_option maxRecDepth 100000 in
theorem toThing_any (x : ThingD) (w : World) :
    Calls Try.prog 147 #[.agg #[.int .i64 x.fId, .bool x.fFolder, .string x.fText]] w fun e w' => e = .returned (.agg #[.int .i64 x.fId, .bool x.fFolder, .string x.fText]) ∧ Below w.heap.size w w' := by
  go_enter Try.func147, Try.ntmps147
  go_wp2
  refine bodyPost_ret (v := .agg #[.int .i64 x.fId, .bool x.fFolder, .string x.fText]) (by simp [results, Try.results147, go_sem]) rfl ⟨rfl, ?_⟩
  exact (((Below.refl _ _).alloc (Nat.le_refl _) _).alloc (by simp) _).alloc (by simp; omega) _
set_option maxHeartbeats 400000 in
set_option maxRecDepth 100000 in
theorem eqThing_yes (x : ThingD) (w : World) :
    Calls Try.prog 149 #[.agg #[.int .i64 x.fId, .bool x.fFolder, .string x.fText], .agg #[.int .i64 x.fId, .bool x.fFolder, .string x.fText]] w fun e w' => e = .returned (.bool true) ∧ Below w.heap.size w w' := by
  go_enter Try.func149, Try.ntmps149
  go_wp2
  go_ret
  exact ⟨rfl, ((Below.refl _ _).alloc (Nat.le_refl _) _).alloc (by simp) _⟩
set_option maxHeartbeats 400000 in
set_option maxRecDepth 100000 in
theorem szThingS_any (ao : Option Addr) (len cap : Nat) (xs : List ThingD) (l : Int) (w : World) (hl0 : 0 ≤ l) (hl1 : l ≤ 1048576) (hlen : len ≤ 9223372036854775807) (hr : Rd ThingD.cells 3 w ao len xs) (hs : ∀ x ∈ xs, x.fText.size ≤ 9223372036854775807) :
    Calls Try.prog 137 #[.slice ao len cap, .int .i64 l] w fun e w' => e = .returned (.int .i64 (leftOf l (len + tot ThingD.bulk xs))) ∧ Below w.heap.size w w' := by
  by_cases hln : l < len
  · rw [leftOf_no (by omega)]
    go_enter Try.func137, Try.ntmps137
    go_wp2
    go_ret
    exact ⟨rfl, Below.refl _ _⟩
  · go_enter Try.func137, Try.ntmps137
    go_wp2
    go_loopw [1,5] (fun l' i wr => ∃ k : Nat, k ≤ len ∧ i = .int .i64 k ∧ (len + tot ThingD.bulk (xs.take k) : Nat) ≤ l ∧ l' = .int .i64 (l - (len + tot ThingD.bulk (xs.take k) : Nat)) ∧ Below w.heap.size w wr) (fun _ i _ => len - (intOf i).toNat)
    case atStart => exact ⟨0, Nat.zero_le _, rfl, by simp [tot]; omega, by simp [tot], Below.refl _ _⟩
    case round =>
      obtain ⟨k, hk, rfl, hle, rfl, hb⟩ := hrel
      by_cases hlt : k < len
      · have hkx : k < xs.length := by rw [hr.len]; exact hlt
        obtain ⟨b, off, x, hx0, rfl, hbl, hrg⟩ := hr.at_ k hkx
        obtain ⟨c0, c1, c2⟩ := ThingD.at_ (rangeAt_below hrg hb hbl)
        have hsk0 := hs _ (List.mem_of_getElem? hx0)
        have H1 := Lib.hid (tot_take ThingD.bulk xs k hx0)
        clear hx0
        have hle2 := tot_take_le ThingD.bulk xs (k + 1)
        have hcall := szThing_any x (l - (len + tot ThingD.bulk (xs.take k) : Nat)) wr (by omega) (by omega) hsk0
        by_cases hc : l - (len + tot ThingD.bulk (xs.take k) : Nat) < (x.bulk : Nat)
        · rw [leftOf_no hc] at hcall
          have HC := Lib.hid hcall
          clear hcall
          go_wp2_with fail
          refine HC.out.mono ?_
          rintro e w' ⟨rfl, hb'⟩
          go_wp2
          go_ret
          exact ⟨ret_int (by rw [leftOf_no (by have := H1.out; omega)]), hb.trans (hb'.mono hb.size)⟩
        · rw [leftOf_yes (by omega)] at hcall
          have HC := Lib.hid hcall
          clear hcall
          go_wp2_with fail
          refine HC.out.mono ?_
          rintro e w' ⟨rfl, hb'⟩
          go_wp2
          go_roundw
          case rel => exact ⟨k + 1, by omega, by go_num, by rw [H1.out]; omega, by rw [H1.out]; congr 1; omega, hb.trans (hb'.mono hb.size)⟩
          case measure => simp [intOf]; omega
      · have hk' : k = len := by omega
        subst hk'
        have ht := Lib.hid (List.take_of_length_le (l := xs) (i := k) (by rw [hr.len]; exact Nat.le_refl _))
        rw [ht.out] at hle
        go_wp2
        go_ret
        rw [ht.out]
        exact ⟨ret_int (by rw [leftOf_yes hle]), hb⟩

theorem Try.infoThingS : (Try.prog.info? 162).map (fun i => (i.zero, i.size, i.bytes)) = some (some (.agg #[.int .i64 0, .bool false, .string ByteArray.empty]), 3, 32) := by kernel_rfl
set_option maxHeartbeats 400000 in
set_option maxRecDepth 100000 in
theorem toThingS_any (ao : Option Addr) (len cap : Nat) (xs : List ThingD) (w : World) (hlen : len ≤ 1048576) (hr : Rd ThingD.cells 3 w ao len xs) :
    Calls Try.prog 139 #[.slice ao len cap] w fun e w' => e = .returned (.slice (some ⟨w.heap.size, 0, none⟩) len len) ∧ w'.ownsRow w.heap.size 162 3 (.slice (some ⟨w.heap.size, 0, none⟩) len len) xs.length (xs.flatMap ThingD.cells) ∧ Below w.heap.size w w' := by
  obtain ⟨i0, hi, hz0, hz1, hz2⟩ := info_parts Try.infoThingS
  go_enter Try.func139, Try.ntmps139
  go_wp2_with (refine wpList_make_full _ rfl (.tmp 6) (.tmp 6) 95 rfl w.heap.size 162 i0 _ 3 Try.underlying95 hi hz0 hz1 .i64 .i64 _ _ len rfl rfl rfl rfl ?b2 ?b3 ?b4 ?_)
  case b2 => rw [hz2]; omega
  case b3 => unfold maxLen; omega
  case b4 => exact Nat.le_refl _
  intro w1 hown hg
  have hb0 : Below w.heap.size w w1 := (Below.refl _ _).grown hg (Nat.le_refl _) (by simp)
  have hs1 : w.heap.size + 1 ≤ w1.heap.size := (hown.lt w.heap.size (by simp [Value.ownBlock])).2
  have hfill := Fill.start (xs := xs) (enc := ThingD.cells) hown
  clear hown
  go_wp2
  go_loopw [4] (fun i wr => ∃ k : Nat, k ≤ len ∧ i = .int .i64 k ∧ Fill ThingD.cells 3 w.heap.size 162 wr w.heap.size len xs k ∧ Below w.heap.size w wr ∧ w.heap.size + 1 ≤ wr.heap.size) (fun i _ => len - (intOf i).toNat)
  case atStart => exact ⟨0, Nat.zero_le _, rfl, hfill, hb0, hs1⟩
  case round =>
    obtain ⟨k, hk, rfl, hf, hb, hsz⟩ := hrel
    by_cases hlt : k < len
    · have hkx : k < xs.length := by rw [hr.len]; exact hlt
      obtain ⟨b, off, x, hx0, rfl, hbl, hrg⟩ := hr.at_ k hkx
      obtain ⟨c0, c1, c2⟩ := ThingD.at_ (rangeAt_below hrg hb hbl)
      have hx := Lib.hid hx0
      clear hx0
      go_wp2_with fail
      refine (toThing_any x _).mono ?_
      rintro e w2 ⟨rfl, hb2⟩
      have hf2 := hf.below hb2 (Nat.le_refl _)
      have ht2 := Fill.there ThingD.cells_len hf2 hr.len hlt
      obtain ⟨hf3, hg3⟩ := Fill.step ThingD.cells_len hf2 hr.len hx.out
      go_wp2_with (refine wpList_store_mid rfl 162 (.tmp 21) (.tmp 20) rfl w.heap.size (k * 3) _ rfl rfl ?c0 ?c1 ?c2 ?_)
      case c0 => exact ht2
      case c1 => kernel_rfl
      case c2 => simp [Value.oneCell']
      go_roundw
      case rel => exact ⟨k + 1, by omega, by go_num, hf3, (hb.trans (hb2.mono hb.size)).grown hg3 (by have := hb2.size; omega) (by intro j hj; cases hj; exact Nat.le_refl _), by have h3 := hg3.size; simp only [ThingD.cells] at h3; have := hb2.size; omega⟩
      case measure => simp [intOf]; omega
    · have hk' : k = len := by omega
      subst hk'
      go_wp2
      go_ret
      exact ⟨rfl, Fill.done hf hr.len, hb⟩

set_option maxHeartbeats 400000 in
set_option maxRecDepth 100000 in
theorem eqThingS_yes (ao bo : Option Addr) (len cap cap2 : Nat) (xs : List ThingD) (w : World) (hlen : len ≤ 1048576) (hr : Rd ThingD.cells 3 w ao len xs) (hr2 : Rd ThingD.cells 3 w bo len xs) :
    Calls Try.prog 141 #[.slice ao len cap, .slice bo len cap2] w fun e w' => e = .returned (.bool true) ∧ Below w.heap.size w w' := by
  go_enter Try.func141, Try.ntmps141
  go_wp2
  go_loopw [5] (fun i wr => ∃ k : Nat, k ≤ len ∧ i = .int .i64 k ∧ Below w.heap.size w wr) (fun i _ => len - (intOf i).toNat)
  case atStart => exact ⟨0, Nat.zero_le _, rfl, Below.refl _ _⟩
  case round =>
    obtain ⟨k, hk, rfl, hb⟩ := hrel
    by_cases hlt : k < len
    · have hkx : k < xs.length := by rw [hr.len]; exact hlt
      obtain ⟨b, off, x, hx0, rfl, hbl, hrg⟩ := hr.at_ k hkx
      obtain ⟨c0, c1, c2⟩ := ThingD.at_ (rangeAt_below hrg hb hbl)
      obtain ⟨b2, off2, x2, hx2, rfl, hbl2, hrg2⟩ := hr2.at_ k hkx
      obtain rfl : x = x2 := Option.some.inj (hx0.symm.trans hx2)
      obtain ⟨d0, d1, d2⟩ := ThingD.at_ (rangeAt_below hrg2 hb hbl2)
      clear hx0 hx2
      go_wp2_with fail
      go_still_tail 8, (by kernel_rfl)
      change wpList _ _ _ _ _ wr.drew
      have hb1 := hb.drew
      have hsz := hb1.size
      generalize wr.drew = w1 at hb1 hsz ⊢
      go_wp2_with fail
      refine (eqThing_yes x _).mono ?_
      rintro e w2 ⟨rfl, hb2⟩
      go_wp2
      go_roundw
      case rel => exact ⟨k + 1, by omega, by go_num, hb1.trans (hb2.mono hsz)⟩
      case measure => simp [intOf]; omega
    · go_wp2
      go_ret
      exact ⟨rfl, hb⟩

end Go.Proofs.Ytkgmilobmbeplaa
