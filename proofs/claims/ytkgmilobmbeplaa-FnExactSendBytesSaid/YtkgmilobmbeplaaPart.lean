/- Walks over parts of what is sent: their bulk, a copy, equality. -/
import Derived.Test.YtkgmilobmbeplaaRows
import Derived.Test.YtkgmilobmbeplaaMem
import Derived.StillTailTactics
namespace Go.Proofs.Ytkgmilobmbeplaa
open Go.RowKit

/-- A part of what is sent. -/
structure PartD where
  id : Int
  kind : Int
  links : Int
  size : Int
  piece : Int
  text : ByteArray
def PartD.cells (x : PartD) : List Value := [.int .i64 x.id, .int .i64 x.kind, .int .i64 x.links, .int .i64 x.size, .int .i64 x.piece, .string x.text]
theorem PartD.at_ {w : World} {b o : Nat} {x : PartD} (h : w.rangeAt b o x.cells) :
    w.cell? ⟨b, o, none⟩ = some (.int .i64 x.id) ∧ w.cell? ⟨b, o + 1, none⟩ = some (.int .i64 x.kind) ∧ w.cell? ⟨b, o + 2, none⟩ = some (.int .i64 x.links) ∧
    w.cell? ⟨b, o + 3, none⟩ = some (.int .i64 x.size) ∧ w.cell? ⟨b, o + 4, none⟩ = some (.int .i64 x.piece) ∧ w.cell? ⟨b, o + 5, none⟩ = some (.string x.text) :=
  ⟨h 0 _ rfl, h 1 _ rfl, h 2 _ rfl, h 3 _ rfl, h 4 _ rfl, h 5 _ rfl⟩

set_option maxHeartbeats 400000 in
theorem szPart_any (a b c d e : Int) (s : ByteArray) (l : Int) (w : World) (hl0 : 0 ≤ l) (hl1 : l ≤ 1048576) (hs : s.size ≤ 9223372036854775807) :
    Calls Try.prog 93 #[.agg #[.int .i64 a, .int .i64 b, .int .i64 c, .int .i64 d, .int .i64 e, .string s], .int .i64 l] w fun e w' => e = .returned (.int .i64 (leftOf l s.size)) ∧ Below w.heap.size w w' := by
  by_cases h : l < s.size
  · rw [leftOf_no h]
    go_enter Try.func93, Try.ntmps93
    go_wp2
    go_ret
    exact ⟨rfl, (Below.refl _ _).alloc (Nat.le_refl _) _⟩
  · rw [leftOf_yes (by omega)]
    go_enter Try.func93, Try.ntmps93
    go_wp2
    go_ret
    exact ⟨rfl, (Below.refl _ _).alloc (Nat.le_refl _) _⟩

def PartD.bulk (x : PartD) : Nat := x.text.size

set_option maxHeartbeats 400000 in
theorem szPartS_any (ao : Option Addr) (len cap : Nat) (xs : List PartD) (l : Int) (w : World) (hl0 : 0 ≤ l) (hl1 : l ≤ 1048576) (hlen : len ≤ 9223372036854775807) (hr : Rd PartD.cells 6 w ao len xs) (hs : ∀ x ∈ xs, x.text.size ≤ 9223372036854775807) :
    Calls Try.prog 41 #[.slice ao len cap, .int .i64 l] w fun e w' => e = .returned (.int .i64 (leftOf l (len + tot PartD.bulk xs))) ∧ Below w.heap.size w w' := by
  by_cases hln : l < len
  · rw [leftOf_no (by omega)]
    go_enter Try.func41, Try.ntmps41
    go_wp2
    go_ret
    exact ⟨rfl, Below.refl _ _⟩
  · go_enter Try.func41, Try.ntmps41
    go_wp2
    go_loopw [1,5] (fun l' i wr => ∃ k : Nat, k ≤ len ∧ i = .int .i64 k ∧ (len + tot PartD.bulk (xs.take k) : Nat) ≤ l ∧ l' = .int .i64 (l - (len + tot PartD.bulk (xs.take k) : Nat)) ∧ Below w.heap.size w wr) (fun _ i _ => len - (intOf i).toNat)
    case atStart => exact ⟨0, Nat.zero_le _, rfl, by simp [tot]; omega, by simp [tot], Below.refl _ _⟩
    case round =>
      obtain ⟨k, hk, rfl, hle, rfl, hb⟩ := hrel
      by_cases hlt : k < len
      · have hkx : k < xs.length := by rw [hr.len]; exact hlt
        obtain ⟨b, off, x, hx0, rfl, hbl, hrg⟩ := hr.at_ k hkx
        obtain ⟨c0, c1, c2, c3, c4, c5⟩ := PartD.at_ (rangeAt_below hrg hb hbl)
        have hsk := hs _ (List.mem_of_getElem? hx0)
        have H1 := Lib.hid (tot_take PartD.bulk xs k hx0)
        clear hx0
        have hle2 := tot_take_le PartD.bulk xs (k + 1)
        have hcall := szPart_any x.id x.kind x.links x.size x.piece x.text (l - (len + tot PartD.bulk (xs.take k) : Nat)) wr (by omega) (by omega) hsk
        by_cases hc : l - (len + tot PartD.bulk (xs.take k) : Nat) < x.text.size
        · rw [leftOf_no hc] at hcall
          have HC := Lib.hid hcall
          clear hcall
          go_wp2_with fail
          refine HC.out.mono ?_
          rintro e w' ⟨rfl, hb'⟩
          go_wp2
          go_ret
          exact ⟨ret_int (by rw [leftOf_no (by have := H1.out; simp only [PartD.bulk] at this hle2; omega)]), hb.trans (hb'.mono hb.size)⟩
        · rw [leftOf_yes (by omega)] at hcall
          have HC := Lib.hid hcall
          clear hcall
          go_wp2_with fail
          refine HC.out.mono ?_
          rintro e w' ⟨rfl, hb'⟩
          go_wp2
          go_roundw
          case rel => exact ⟨k + 1, by omega, by go_num, by rw [H1.out]; simp only [PartD.bulk] at *; omega, by rw [H1.out]; simp only [PartD.bulk] at *; congr 1; omega, hb.trans (hb'.mono hb.size)⟩
          case measure => simp [intOf]; omega
      · have hk' : k = len := by omega
        subst hk'
        rw [List.take_of_length_le (by rw [hr.len]; exact Nat.le_refl _)] at hle
        have ht := Lib.hid (List.take_of_length_le (l := xs) (i := k) (by rw [hr.len]; exact Nat.le_refl _))
        go_wp2
        go_ret
        rw [ht.out]
        exact ⟨ret_int (by rw [leftOf_yes hle]), hb⟩

theorem PartD.cells_len (x : PartD) : x.cells.length = 6 := rfl

set_option maxHeartbeats 400000 in
set_option maxRecDepth 100000 in
theorem toPart_any (a b c d e : Int) (s : ByteArray) (w : World) :
    Calls Try.prog 94 #[.agg #[.int .i64 a, .int .i64 b, .int .i64 c, .int .i64 d, .int .i64 e, .string s]] w fun e' w' => e' = .returned (.agg #[.int .i64 a, .int .i64 b, .int .i64 c, .int .i64 d, .int .i64 e, .string s]) ∧ Below w.heap.size w w' := by
  go_enter Try.func94, Try.ntmps94
  go_wp2
  refine bodyPost_ret (v := .agg #[.int .i64 a, .int .i64 b, .int .i64 c, .int .i64 d, .int .i64 e, .string s]) (by simp [results, Try.results94, go_sem]) rfl ⟨rfl, ?_⟩
  exact (((Below.refl _ _).alloc (Nat.le_refl _) _).alloc (by simp) _).alloc (by simp; omega) _

theorem Try.infoPart : (Try.prog.info? 83).map (fun i => (i.zero, i.size, i.bytes)) = some (some (.agg #[.int .i64 0, .int .i64 0, .int .i64 0, .int .i64 0, .int .i64 0, .string ByteArray.empty]), 6, 56) := by kernel_rfl

set_option maxHeartbeats 400000 in
set_option maxRecDepth 100000 in
theorem toPartS_any (ao : Option Addr) (len cap : Nat) (xs : List PartD) (w : World) (hlen : len ≤ 1048576) (hr : Rd PartD.cells 6 w ao len xs) :
    Calls Try.prog 42 #[.slice ao len cap] w fun e w' => e = .returned (.slice (some ⟨w.heap.size, 0, none⟩) len len) ∧ w'.ownsRow w.heap.size 83 6 (.slice (some ⟨w.heap.size, 0, none⟩) len len) xs.length (xs.flatMap PartD.cells) ∧ Below w.heap.size w w' := by
  obtain ⟨i0, hi, hz0, hz1, hz2⟩ := info_parts Try.infoPart
  go_enter Try.func42, Try.ntmps42
  go_wp2_with (refine wpList_make_full _ rfl (.tmp 6) (.tmp 6) 27 rfl w.heap.size 83 i0 _ 6 Try.underlying27 hi hz0 hz1 .i64 .i64 _ _ len rfl rfl rfl rfl ?b2 ?b3 ?b4 ?_)
  case b2 => rw [hz2]; omega
  case b3 => unfold maxLen; omega
  case b4 => exact Nat.le_refl _
  intro w1 hown hg
  have hb0 : Below w.heap.size w w1 := (Below.refl _ _).grown hg (Nat.le_refl _) (by simp)
  have hs1 : w.heap.size + 1 ≤ w1.heap.size := (hown.lt w.heap.size (by simp [Value.ownBlock])).2
  have hfill := Fill.start (xs := xs) (enc := PartD.cells) hown
  clear hown
  go_wp2
  go_loopw [4] (fun i wr => ∃ k : Nat, k ≤ len ∧ i = .int .i64 k ∧ Fill PartD.cells 6 w.heap.size 83 wr w.heap.size len xs k ∧ Below w.heap.size w wr ∧ w.heap.size + 1 ≤ wr.heap.size) (fun i _ => len - (intOf i).toNat)
  case atStart => exact ⟨0, Nat.zero_le _, rfl, hfill, hb0, hs1⟩
  case round =>
    obtain ⟨k, hk, rfl, hf, hb, hsz⟩ := hrel
    by_cases hlt : k < len
    · have hkx : k < xs.length := by rw [hr.len]; exact hlt
      obtain ⟨b, off, x, hx0, rfl, hbl, hrg⟩ := hr.at_ k hkx
      obtain ⟨c0, c1, c2, c3, c4, c5⟩ := PartD.at_ (rangeAt_below hrg hb hbl)
      have hx := Lib.hid hx0
      clear hx0
      go_wp2_with fail
      refine (toPart_any _ _ _ _ _ _ _).mono ?_
      rintro e w2 ⟨rfl, hb2⟩
      have hf2 := hf.below hb2 (Nat.le_refl _)
      have ht2 := Fill.there PartD.cells_len hf2 hr.len hlt
      obtain ⟨hf3, hg3⟩ := Fill.step PartD.cells_len hf2 hr.len hx.out
      go_wp2_with (refine wpList_store_mid rfl 83 (.tmp 21) (.tmp 20) rfl w.heap.size (k * 6) _ rfl rfl ?c0 ?c1 ?c2 ?_)
      case c0 => exact ht2
      case c1 => kernel_rfl
      case c2 => simp [Value.oneCell']
      go_roundw
      case rel => exact ⟨k + 1, by omega, by go_num, hf3, (hb.trans (hb2.mono hb.size)).grown hg3 (by have := hb2.size; omega) (by intro j hj; cases hj; exact Nat.le_refl _), by have h3 := hg3.size; simp only [PartD.cells] at h3; have := hb2.size; omega⟩
      case measure => simp [intOf]; omega
    · have hk' : k = len := by omega
      subst hk'
      go_wp2
      go_ret
      exact ⟨rfl, Fill.done hf hr.len, hb⟩

set_option maxHeartbeats 400000 in
set_option maxRecDepth 100000 in
theorem eqPart_yes (a b c d e : Int) (s : ByteArray) (w : World) :
    Calls Try.prog 95 #[.agg #[.int .i64 a, .int .i64 b, .int .i64 c, .int .i64 d, .int .i64 e, .string s], .agg #[.int .i64 a, .int .i64 b, .int .i64 c, .int .i64 d, .int .i64 e, .string s]] w fun e' w' => e' = .returned (.bool true) ∧ Below w.heap.size w w' := by
  go_enter Try.func95, Try.ntmps95
  go_wp2
  go_ret
  exact ⟨rfl, ((Below.refl _ _).alloc (Nat.le_refl _) _).alloc (by simp) _⟩

set_option maxHeartbeats 400000 in
set_option maxRecDepth 100000 in
theorem eqPartS_yes (ao bo : Option Addr) (len cap cap2 : Nat) (xs : List PartD) (w : World) (hlen : len ≤ 1048576) (hr : Rd PartD.cells 6 w ao len xs) (hr2 : Rd PartD.cells 6 w bo len xs) :
    Calls Try.prog 44 #[.slice ao len cap, .slice bo len cap2] w fun e w' => e = .returned (.bool true) ∧ Below w.heap.size w w' := by
  go_enter Try.func44, Try.ntmps44
  go_wp2
  go_loopw [5] (fun i wr => ∃ k : Nat, k ≤ len ∧ i = .int .i64 k ∧ Below w.heap.size w wr) (fun i _ => len - (intOf i).toNat)
  case atStart => exact ⟨0, Nat.zero_le _, rfl, Below.refl _ _⟩
  case round =>
    obtain ⟨k, hk, rfl, hb⟩ := hrel
    by_cases hlt : k < len
    · have hkx : k < xs.length := by rw [hr.len]; exact hlt
      obtain ⟨b, off, x, hx0, rfl, hbl, hrg⟩ := hr.at_ k hkx
      obtain ⟨c0, c1, c2, c3, c4, c5⟩ := PartD.at_ (rangeAt_below hrg hb hbl)
      obtain ⟨b2, off2, x2, hx2, rfl, hbl2, hrg2⟩ := hr2.at_ k hkx
      obtain rfl : x = x2 := Option.some.inj (hx0.symm.trans hx2)
      obtain ⟨d0, d1, d2, d3, d4, d5⟩ := PartD.at_ (rangeAt_below hrg2 hb hbl2)
      clear hx0 hx2
      go_wp2_with fail
      go_still_tail 8, (by kernel_rfl)
      change wpList _ _ _ _ _ wr.drew
      have hb1 := hb.drew
      have hsz := hb1.size
      generalize wr.drew = w1 at hb1 hsz ⊢
      go_wp2_with fail
      refine (eqPart_yes _ _ _ _ _ _ _).mono ?_
      rintro e w2 ⟨rfl, hb2⟩
      go_wp2
      go_roundw
      case rel => exact ⟨k + 1, by omega, by go_num, hb1.trans (hb2.mono hsz)⟩
      case measure => simp [intOf]; omega
    · go_wp2
      go_ret
      exact ⟨rfl, hb⟩

end Go.Proofs.Ytkgmilobmbeplaa
